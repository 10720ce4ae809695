/- The proof of FnDischargedCard, part 3 of 7. Conditions: none. -/
import Derived.Test.YtbfpohbmgjcjmaaGreatDoorKR48b
import Derived.Test.YtbfpohbmgjcjmaaGreatDoorRows
import Derived.Lib.Builder
import Derived.Lib.AppendStr
import Derived.Lib.UnsafeStr
import Derived.Lib.IndexLaws
import Derived.WalkKit
import Derived.Laws.Externs
import Derived.Laws.BytesString
import Derived.Shelf.Small.Strs
import Derived.Lib.AppendZerosOnto
import Derived.Lib.Overlaps
namespace Go.Vc
universe u
section
variable {α:Type u} [Inhabited α]
def gt (L:List α) (k:Nat):α:=L.getD k default
theorem gt_eq {L:List α} {k:Nat} (h:k < L.length):gt L k = L[k]:=by unfold gt;simp [List.getD_eq_getElem?_getD,h]
theorem I4 {L:List α} {i:Nat} (x:α) (hi:i < L.length) (k:Nat):gt (L.set i x) k = if k = i then x else gt L k:=by
 unfold gt
 simp only [List.getD_eq_getElem?_getD,List.getElem?_set]
 by_cases h:i = k
 ·subst h;simp [hi]
 ·simp [h,Ne.symm h]
def sw (L:List α) (i j:Nat):List α:=(L.set i (gt L j)).set j (gt L i)
theorem Z4 (L:List α) (i j:Nat):(sw L i j).length = L.length:=by simp [sw]
theorem gt_sw {L:List α} {i j:Nat} (hi:i < L.length) (hj:j < L.length) (k:Nat):gt (sw L i j) k = if k = j then gt L i else if k = i then gt L j else gt L k:=by
 unfold sw
 rw [I4 _ (by simpa using hj),I4 _ hi]
theorem ZC {L:List α} {i j:Nat} (hi:i < L.length) (hj:j < L.length):List.Perm (sw L i j) L:=by
 unfold sw
 rw [gt_eq hi,gt_eq hj]
 exact List.set_set_perm hi hj
inductive SwR (a b:Nat) (L:List α):List α → Prop
 | refl:SwR a b L L
 | step {L':List α} {i j:Nat}:SwR a b L L' → a ≤ i → i < b → a ≤ j → j < b → b ≤ L.length → SwR a b L (sw L' i j)
theorem SwR.len {a b:Nat} {L L':List α} (h:SwR a b L L'):L'.length = L.length:=by
 induction h with
 | refl=>rfl
 | step _ _ _ _ _ _ ih=>rw [Z4,ih]
theorem SwR.perm {a b:Nat} {L L':List α} (h:SwR a b L L'):List.Perm L' L:=by
 induction h with
 | refl=>exact List.Perm.refl _
 | step hs _ _ _ _ _ ih=>exact (ZC (by rw [hs.len];omega) (by rw [hs.len];omega)).trans ih
theorem SwR.trans {a b:Nat} {L L' L'':List α} (h:SwR a b L L') (k:SwR a b L' L''):SwR a b L L'':=by
 induction k with
 | refl=>exact h
 | step _ h1 h2 h3 h4 h5 ih=>exact .step ih h1 h2 h3 h4 (by rw [← h.len];exact h5)
theorem SwR.mono {a b a' b':Nat} {L L':List α} (h:SwR a b L L') (ha:a' ≤ a) (hb:b ≤ b') (hl:b' ≤ L.length):SwR a' b' L L':=by
 induction h with
 | refl=>exact .refl
 | step _ h1 h2 h3 h4 _ ih=>exact .step ih (by omega) (by omega) (by omega) (by omega) hl
theorem SwR.out {a b:Nat} {L L':List α} (h:SwR a b L L') {k:Nat} (hk:k < a ∨ b ≤ k):gt L' k = gt L k:=by
 induction h with
 | refl=>rfl
 | step hs h1 h2 h3 h4 h5 ih=>rw [gt_sw (by rw [hs.len];omega) (by rw [hs.len];omega),if_neg (by omega),if_neg (by omega),ih]
theorem SwR.all {a b:Nat} {L L':List α} (h:SwR a b L L') {p:α → Prop} (hp:∀ k,a ≤ k → k < b → p (gt L k)):∀ k,a ≤ k → k < b → p (gt L' k):=by
 induction h with
 | refl=>exact hp
 | step hs h1 h2 h3 h4 h5 ih=>
  intro k hk hk'
  rw [gt_sw (by rw [hs.len];omega) (by rw [hs.len];omega)]
  split
  ·exact ih _ h1 h2
  ·split
   ·exact ih _ h3 h4
   ·exact ih _ hk hk'
theorem SwR.one {a b i j:Nat} {L:List α} (h1:a ≤ i) (h2:i < b) (h3:a ≤ j) (h4:j < b) (h5:b ≤ L.length):SwR a b L (sw L i j):=.step .refl h1 h2 h3 h4 h5
structure Ordr (lt:α → α → Bool):Prop where
 asym:∀ {a b},lt a b = true → lt b a = false
 tr:∀ {a b c},lt b a = false → lt c b = false → lt c a = false
variable {lt:α → α → Bool}
 omit [Inhabited α] in
theorem Ordr.rfl (O:Ordr lt) (a:α):lt a a = false:=by
  cases h:lt a a
  ·exact Eq.refl _
  ·have:=O.asym h;rw [h] at this;exact this
 omit [Inhabited α] in
theorem Ordr.lt_le (O:Ordr lt) {a b c:α} (h:lt a b = true) (k:lt c b = false):lt a c = true:=by
  cases h':lt a c
  ·have:=O.tr (a:=b) (b:=c) (c:=a) k h';rw [h] at this;cases this
  ·exact Eq.refl _
 omit [Inhabited α] in
theorem Ordr.le_lt (O:Ordr lt) {a b c:α} (h:lt b a = false) (k:lt b c = true):lt a c = true:=by
  cases h':lt a c
  ·have:=O.tr (a:=c) (b:=a) (c:=b) h' h;rw [k] at this;cases this
  ·exact Eq.refl _
def Srt (lt:α → α → Bool) (a b:Nat) (L:List α):Prop:=∀ p q,a ≤ p → p < q → q < b → lt (gt L q) (gt L p) = false
theorem Srt.mono {a b a' b':Nat} {L:List α} (h:Srt lt a b L) (ha:a ≤ a') (hb:b' ≤ b):Srt lt a' b' L:=fun p q h1 h2 h3=>h p q (by omega) h2 (by omega)
theorem Srt.short {a b:Nat} {L:List α} (h:b ≤ a + 1):Srt lt a b L:=fun p q h1 h2 h3=>by omega
theorem Srt.out {a b c d:Nat} {L L':List α} (h:Srt lt a b L) (hs:SwR c d L L') (hd:d ≤ a ∨ b ≤ c):Srt lt a b L':=fun p q h1 h2 h3=>by
 rw [hs.out (by omega),hs.out (by omega)];exact h p q h1 h2 h3
/-! ### Insertion -/
def Ins (lt:α → α → Bool) (a i j:Nat) (L:List α):Prop:=∀ p q,a ≤ p → p < q → q ≤ i → q ≠ j → lt (gt L q) (gt L p) = false
theorem Ins.init {a i:Nat} {L:List α} (h:Srt lt a i L):Ins lt a i i L:=fun p q h1 h2 h3 h4=>h p q h1 h2 (by omega)
theorem Ins.done (O:Ordr lt) {a i j:Nat} {L:List α} (h:Ins lt a i j L) (hj:j ≤ a ∨ (a < j ∧ lt (gt L j) (gt L (j - 1)) = false)) (hji:j ≤ i):Srt lt a (i + 1) L:=fun p q h1 h2 h3=>by
 by_cases hq:q = j
 ·subst hq
  rcases hj with hj | ⟨h4,h5⟩
  ·omega
  ·by_cases hp:p = q - 1
   ·subst hp;exact h5
   ·exact O.tr (h p (q - 1) h1 (by omega) (by omega) (by omega)) h5
 ·exact h p q h1 h2 (by omega) hq
theorem Ins.swap (O:Ordr lt) {a i j:Nat} {L:List α} (h:Ins lt a i j L) (haj:a < j) (hji:j ≤ i) (hi:i < L.length) (hlt:lt (gt L j) (gt L (j - 1)) = true):Ins lt a i (j - 1) (sw L j (j - 1)):=fun p q h1 h2 h3 h4=>by
 rw [gt_sw (by omega) (by omega),gt_sw (by omega) (by omega)]
 rw [if_neg h4]
 by_cases hq:q = j
 ·subst hq
  rw [if_pos rfl]
  by_cases hp:p = q - 1
  ·rw [if_pos hp];exact O.asym hlt
  ·rw [if_neg hp,if_neg (by omega)];exact h p (q - 1) h1 (by omega) (by omega) (by omega)
 ·rw [if_neg hq]
  by_cases hp:p = j - 1
  ·rw [if_pos hp];exact h j q (by omega) (by omega) h3 hq
  ·rw [if_neg hp]
   by_cases hp2:p = j
   ·rw [if_pos hp2];exact h (j - 1) q (by omega) (by omega) h3 hq
   ·rw [if_neg hp2];exact h p q h1 h2 h3 hq
/-! ### Heaps -/
def Heap (lt:α → α → Bool) (first lo hi:Nat) (L:List α):Prop:=∀ p c,lo ≤ p → (c = 2 * p + 1 ∨ c = 2 * p + 2) → c < hi → lt (gt L (first + p)) (gt L (first + c)) = false
def Sift (lt:α → α → Bool) (first lo hi r:Nat) (L:List α):Prop:=
 (∀ p c,lo ≤ p → p ≠ r → (c = 2 * p + 1 ∨ c = 2 * p + 2) → c < hi → lt (gt L (first + p)) (gt L (first + c)) = false) ∧
 (∀ p c,lo ≤ p → (r = 2 * p + 1 ∨ r = 2 * p + 2) → (c = 2 * r + 1 ∨ c = 2 * r + 2) → c < hi → lt (gt L (first + p)) (gt L (first + c)) = false)
theorem Sift.init {first lo hi:Nat} {L:List α} (h:Heap lt first (lo + 1) hi L):Sift lt first lo hi lo L:=
 ⟨fun p c h1 h2 h3 h4=>h p c (by omega) h3 h4,fun p c h1 h2 h3 h4=>by omega⟩
theorem Sift.done {first lo hi r:Nat} {L:List α} (h:Sift lt first lo hi r L) (hr:∀ c,(c = 2 * r + 1 ∨ c = 2 * r + 2) → c < hi → lt (gt L (first + r)) (gt L (first + c)) = false):Heap lt first lo hi L:=fun p c h1 h2 h3=>by
 by_cases hp:p = r
 ·subst hp;exact hr c h2 h3
 ·exact h.1 p c h1 hp h2 h3
theorem Sift.swap (O:Ordr lt) {first lo hi r c:Nat} {L:List α} (h:Sift lt first lo hi r L) (hlo:lo ≤ r) (hc:c = 2 * r + 1 ∨ c = 2 * r + 2) (hch:c < hi) (hl:first + hi ≤ L.length)
  (hlt:lt (gt L (first + r)) (gt L (first + c)) = true) (hmax:∀ d,(d = 2 * r + 1 ∨ d = 2 * r + 2) → d < hi → lt (gt L (first + c)) (gt L (first + d)) = false):
  Sift lt first lo hi c (sw L (first + r) (first + c)):=by
 have e:∀ k,k < hi → gt (sw L (first + r) (first + c)) (first + k) = if k = c then gt L (first + r) else if k = r then gt L (first + c) else gt L (first + k):=fun k hk=>by
  rw [gt_sw (by omega) (by omega)]
  simp only [Nat.add_left_cancel_iff]
 constructor
 ·intro p d h1 h2 h3 h4
  rw [e p (by omega),e d h4,if_neg h2]
  by_cases hp:p = r
  ·subst hp
   rw [if_pos rfl]
   by_cases hd:d = c
   ·rw [if_pos hd];exact O.asym hlt
   ·rw [if_neg hd,if_neg (by omega)];exact hmax d h3 h4
  ·rw [if_neg hp]
   have hdc:d ≠ c:=by omega
   rw [if_neg hdc]
   by_cases hd:d = r
   ·rw [if_pos hd];subst hd;exact h.2 p c h1 h3 hc hch
   ·rw [if_neg hd];exact h.1 p d h1 hp h3 h4
 ·intro p d h1 h2 h3 h4
  have hp:p = r:=by omega
  subst hp
  rw [e p (by omega),e d h4,if_neg (by omega),if_pos rfl,if_neg (by omega),if_neg (by omega)]
  exact h.1 c d (by omega) (by omega) h3 h4
theorem Heap.top (O:Ordr lt) {first hi:Nat} {L:List α} (h:Heap lt first 0 hi L):∀ k,k < hi → lt (gt L first) (gt L (first + k)) = false:=by
 intro k
 induction k using Nat.strongRecOn with
 | ind k ih=>
  intro hk
  by_cases h0:k = 0
  ·subst h0;exact O.rfl _
  ·exact O.tr (h ((k - 1) / 2) k (Nat.zero_le _) (by omega) hk) (ih ((k - 1) / 2) (by omega) (by omega))
/-! ### Windows -/
def Crs (lt:α → α → Bool) (a0 b0 a b:Nat) (L:List α):Prop:=∀ p q,a0 ≤ p → p < q → q < b0 → ¬ (a ≤ p ∧ q < b) → lt (gt L q) (gt L p) = false
def Blw (lt:α → α → Bool) (a b:Nat) (L:List α):Prop:=∀ k,a ≤ k → k < b → 1 ≤ a → lt (gt L k) (gt L (a - 1)) = false
theorem Crs.all {a b:Nat} {L:List α}:Crs lt a b a b L:=fun _ _ h1 _ h3 h4=>(h4 ⟨h1,h3⟩).elim
theorem Crs.keep {a0 b0 a b:Nat} {L L':List α} (h:Crs lt a0 b0 a b L) (hs:SwR a b L L') (ha:a0 ≤ a) (hb:b ≤ b0):Crs lt a0 b0 a b L':=fun p q h1 h2 h3 h4=>by
 by_cases hp:a ≤ p ∧ p < b
 ·rw [hs.out (k:=q) (by omega)]
  exact hs.all (p:=fun x=>lt (gt L q) x = false) (fun k hk hk'=>h k q (by omega) (by omega) h3 (by omega)) p hp.1 hp.2
 ·rw [hs.out (k:=p) (by omega)]
  by_cases hq:a ≤ q ∧ q < b
  ·exact hs.all (p:=fun x=>lt x (gt L p) = false) (fun k hk hk'=>h p k h1 (by omega) (by omega) (by omega)) q hq.1 hq.2
  ·rw [hs.out (k:=q) (by omega)];exact h p q h1 h2 h3 h4
theorem Crs.done {a0 b0 a b:Nat} {L L':List α} (h:Crs lt a0 b0 a b L) (hs:SwR a b L L') (ha:a0 ≤ a) (hb:b ≤ b0) (k:Srt lt a b L'):Srt lt a0 b0 L':=fun p q h1 h2 h3=>by
 by_cases hw:a ≤ p ∧ q < b
 ·exact k p q hw.1 h2 hw.2
 ·exact h.keep hs ha hb p q h1 h2 h3 hw
theorem Blw.keep {a b a' b':Nat} {L L':List α} (h:Blw lt a b L) (hs:SwR a' b' L L') (ha:a ≤ a') (hb:b' ≤ b):Blw lt a b L':=fun k h1 h2 h3=>by
 rw [hs.out (k:=a - 1) (by omega)]
 by_cases hk:a' ≤ k ∧ k < b'
 ·exact hs.all (p:=fun x=>lt x (gt L (a - 1)) = false) (fun k hk hk'=>h k (by omega) (by omega) h3) k hk.1 hk.2
 ·rw [hs.out (k:=k) (by omega)];exact h k h1 h2 h3
theorem Blw.low {a b m:Nat} {L:List α} (h:Blw lt a b L) (hm:m ≤ b):Blw lt a m L:=fun k h1 h2 h3=>h k h1 (by omega) h3
def iG (lt:α → α → Bool) (a b m:Nat) (L:List α):Prop:=(∀ k,a ≤ k → k < m → lt (gt L k) (gt L m) = true) ∧ ∀ k,m < k → k < b → lt (gt L k) (gt L m) = false
theorem iG.lowS {a b m:Nat} {L L':List α} (h:iG lt a b m L) (hs:SwR a m L L'):iG lt a b m L':=
 ⟨fun k h1 h2=>by rw [hs.out (k:=m) (by omega)];exact hs.all (p:=fun x=>lt x (gt L m) = true) h.1 k h1 h2,
  fun k h1 h2=>by rw [hs.out (k:=m) (by omega),hs.out (k:=k) (by omega)];exact h.2 k h1 h2⟩
theorem iG.highS {a b m:Nat} {L L':List α} (h:iG lt a b m L) (hs:SwR (m + 1) b L L'):iG lt a b m L':=
 ⟨fun k h1 h2=>by rw [hs.out (k:=m) (by omega),hs.out (k:=k) (by omega)];exact h.1 k h1 h2,
  fun k h1 h2=>by rw [hs.out (k:=m) (by omega)];exact hs.all (p:=fun x=>lt x (gt L m) = false) (fun k h1 h2=>h.2 k (by omega) h2) k (by omega) h2⟩
theorem iG.blw {a b m:Nat} {L:List α} (h:iG lt a b m L):Blw lt (m + 1) b L:=fun k h1 h2 _=>h.2 k (by omega) h2
theorem iG.up (O:Ordr lt) {a0 b0 a b m:Nat} {L:List α} (h:iG lt a b m L) (hc:Crs lt a0 b0 a b L) (hs:Srt lt a m L):Crs lt a0 b0 (m + 1) b L:=fun p q h1 h2 h3 h4=>by
 by_cases hw:a ≤ p ∧ q < b
 ·rcases Nat.lt_trichotomy q m with hq | hq | hq
  ·exact hs p q hw.1 h2 hq
  ·subst hq;exact O.asym (h.1 p hw.1 h2)
  ·rcases Nat.lt_trichotomy p m with hp | hp | hp
   ·exact O.tr (O.asym (h.1 p hw.1 hp)) (h.2 q hq hw.2)
   ·subst hp;exact h.2 q hq hw.2
   ·omega
 ·exact hc p q h1 h2 h3 hw
theorem iG.down (O:Ordr lt) {a0 b0 a b m:Nat} {L:List α} (h:iG lt a b m L) (hc:Crs lt a0 b0 a b L) (hs:Srt lt (m + 1) b L):Crs lt a0 b0 a m L:=fun p q h1 h2 h3 h4=>by
 by_cases hw:a ≤ p ∧ q < b
 ·rcases Nat.lt_trichotomy p m with hp | hp | hp
  ·rcases Nat.lt_trichotomy q m with hq | hq | hq
   ·omega
   ·subst hq;exact O.asym (h.1 p hw.1 h2)
   ·exact O.tr (O.asym (h.1 p hw.1 hp)) (h.2 q hq hw.2)
  ·subst hp;exact h.2 q h2 hw.2
  ·exact hs p q hp h2 hw.2
 ·exact hc p q h1 h2 h3 hw
theorem Y4 (O:Ordr lt) {a0 b0 a b m:Nat} {L:List α} {x:α} (hc:Crs lt a0 b0 a b L) (hx:∀ k,a ≤ k → k < b → lt (gt L k) x = false) (h1:∀ k,a ≤ k → k < m → lt x (gt L k) = false) (_:m ≤ b):Crs lt a0 b0 m b L:=fun p q g1 g2 g3 g4=>by
 by_cases hw:a ≤ p ∧ q < b
 ·exact O.tr (h1 p hw.1 (by omega)) (hx q (by omega) hw.2)
 ·exact hc p q g1 g2 g3 hw
theorem XM (O:Ordr lt) {a b m:Nat} {L:List α} {x:α} (hx:∀ k,a ≤ k → k < b → lt (gt L k) x = false) (h1:∀ k,a ≤ k → k < m → lt x (gt L k) = false) (ham:a < m):Blw lt m b L:=fun k g1 g2 _=>
 O.tr (h1 (m - 1) (by omega) (by omega)) (hx k (by omega) g2)
theorem Srt.pairwise {L:List α} (h:Srt lt 0 L.length L):L.Pairwise fun x y=>lt y x = false:=by
 rw [List.pairwise_iff_getElem]
 intro i j hi hj hij
 rw [← gt_eq hi,← gt_eq hj]
 exact h i j (Nat.zero_le _) hij hj
theorem ordrS:Ordr ltS:=⟨RF,fun {a b c} h k=>by
 cases h':ltS c a
 ·rfl
 ·rcases BZ b c with e | e | e
  ·have:=BI e h';rw [h] at this;cases this
  ·subst e;rw [h] at h';cases h'
  ·rw [k] at e;cases e⟩
end
end Go.Vc

namespace Go.Vc
structure MM where
 W:Type
 R:W → W → Prop
 v:W → Nat → Prop
def MM.f (M:MM):Fm → M.W → Prop
 | .var p,w=>M.v w p
 | .fls,_=>False
 | .and a b,w=>M.f a w ∧ M.f b w
 | .or a b,w=>M.f a w ∨ M.f b w
 | .imp a b,w=>M.f a w → M.f b w
 | .box a,w=>∀ u,M.R w u → M.f a u
 | .dia a,w=>∃ u,M.R w u ∧ M.f a u
def MM.ok (M:MM) (s:Nat):Prop:=
 if s = 3 then ∀ w,∃ u,M.R w u
 else if s = 4 then ∀ w,M.R w w
 else if s = 5 then ∀ a b c,M.R a b → M.R b c → M.R a c
 else if s = 6 then (∀ w,M.R w w) ∧ ∀ a b c,M.R a b → M.R b c → M.R a c
 else if s = 7 then (∀ w,M.R w w) ∧ ∀ a b c,M.R a b → M.R a c → M.R b c
 else if s = 8 then ∀ a b,M.R a b → M.R b a
 else if s = 9 then (∀ a b c,M.R a b → M.R b c → M.R a c) ∧ ∀ P:M.W → Prop,(∀ w,(∀ u,M.R w u → P u) → P w) → ∀ w,P w
 else True
def inst (g:Nat → Fm):Fm → Fm
 | .var p=>g p
 | .fls=>.fls
 | .and a b=>.and (inst g a) (inst g b)
 | .or a b=>.or (inst g a) (inst g b)
 | .imp a b=>.imp (inst g a) (inst g b)
 | .box a=>.box (inst g a)
 | .dia a=>.dia (inst g a)
def UK:List Fm:=
 let p:=Fm.var 0
 let q:=Fm.var 1
 let r:=Fm.var 2
 let n:=fun a=>Fm.imp a .fls
 [.imp p (.imp q p),.imp (.imp p (.imp q r)) (.imp (.imp p q) (.imp p r)),.imp (.and p q) p,.imp (.and p q) q,.imp p (.imp q (.and p q)),.imp p (.or p q),.imp q (.or p q),
  .imp (.imp p r) (.imp (.imp q r) (.imp (.or p q) r)),.imp .fls p,.imp (n (n p)) p,.imp (.box (.imp p q)) (.imp (.box p) (.box q)),.imp (.dia p) (n (.box (n p))),.imp (n (.box (n p))) (.dia p),
  .imp (.box p) p,.imp (.box p) (.box (.box p)),.imp (.dia p) (.box (.dia p)),.imp p (.box (.dia p)),.imp (.box p) (.dia p),.imp (.box (.imp (.box p) p)) (.box p)]
def schF (k:Nat):Fm:=UK.getD k .fls
def sysS (s:Nat):List Nat:=if s = 0 then List.range 9 else if s = 1 then List.range 10 else List.range 13 ++ (if s = 3 then [17] else if s = 4 then [13] else if s = 5 then [14] else if s = 6 then [13,14] else if s = 7 then [13,15] else if s = 8 then [16] else if s = 9 then [18] else [])
def SysV (s:Nat) (a:Fm):Prop:=if s = 0 then Vld [] a else ∀ M:MM,M.ok s → ∀ w,M.f a w
theorem V5 {s k:Nat} (hs:s ≤ 9) (hk:k ∈ sysS s) (g:Nat → Fm):SysV s (inst g (schF k)):=by
 unfold SysV
 split
 ·rename_i h
  subst h
  have hk:k < 9:=by simpa [sysS] using hk
  intro M w _
  have M1:=M.refl
  have M2:=M.trans
  have M3:=M.up
  rcases (show k = 0 ∨ k = 1 ∨ k = 2 ∨ k = 3 ∨ k = 4 ∨ k = 5 ∨ k = 6 ∨ k = 7 ∨ k = 8 by omega) with h | h | h | h | h | h | h | h | h <;> subst h
  ·exact fun u hu hp x hx _=>M3 _ _ _ hx hp
  ·exact fun u hu h1 x hx h2 y hy hp=>h1 y (M2 _ _ _ hx hy) hp y (M1 y) (h2 y hy hp)
  ·exact fun u hu h=>h.1
  ·exact fun u hu h=>h.2
  ·exact fun u hu hp x hx hq=>⟨M3 _ _ _ hx hp,hq⟩
  ·exact fun u hu h=>.inl h
  ·exact fun u hu h=>.inr h
  ·exact fun u hu h1 x hx h2 y hy h=>h.elim (h1 y (M2 _ _ _ hx hy)) (h2 y hy)
  ·exact fun u hu h=>h.elim
 ·rename_i h0
  intro M hM w
  have hk19:k < 19:=by
   have key:∀ s:Fin 10,∀ k ∈ sysS s.val,k < 19:=by decide
   exact key ⟨s,by omega⟩ k hk
  have ok1:∀ {r:Nat},s = r → MM.ok M r:=fun h=>h ▸ hM
  have req:k = 13 → (∀ w,M.R w w):=by
   intro e;subst e
   have:s = 4 ∨ s = 6 ∨ s = 7:=by
    have key:∀ s:Fin 10,13 ∈ sysS s.val → s.val = 4 ∨ s.val = 6 ∨ s.val = 7:=by decide
    exact key ⟨s,by omega⟩ hk
   rcases this with h | h | h
   ·exact ok1 h
   ·exact (show (∀ w,M.R w w) ∧ _ from ok1 h).1
   ·exact (show (∀ w,M.R w w) ∧ _ from ok1 h).1
  have r14:k = 14 → ∀ a b c,M.R a b → M.R b c → M.R a c:=by
   intro e;subst e
   have:s = 5 ∨ s = 6:=by
    have key:∀ s:Fin 10,14 ∈ sysS s.val → s.val = 5 ∨ s.val = 6:=by decide
    exact key ⟨s,by omega⟩ hk
   rcases this with h | h
   ·exact ok1 h
   ·exact (show _ ∧ (∀ a b c,M.R a b → M.R b c → M.R a c) from ok1 h).2
  have r15:k = 15 → ∀ a b c,M.R a b → M.R a c → M.R b c:=by
   intro e;subst e
   have:s = 7:=by
    have key:∀ s:Fin 10,15 ∈ sysS s.val → s.val = 7:=by decide
    exact key ⟨s,by omega⟩ hk
   exact (show _ ∧ (∀ a b c,M.R a b → M.R a c → M.R b c) from ok1 this).2
  have r16:k = 16 → ∀ a b,M.R a b → M.R b a:=by
   intro e;subst e
   have:s = 8:=by
    have key:∀ s:Fin 10,16 ∈ sysS s.val → s.val = 8:=by decide
    exact key ⟨s,by omega⟩ hk
   exact ok1 this
  have r17:k = 17 → ∀ w,∃ u,M.R w u:=by
   intro e;subst e
   have:s = 3:=by
    have key:∀ s:Fin 10,17 ∈ sysS s.val → s.val = 3:=by decide
    exact key ⟨s,by omega⟩ hk
   exact ok1 this
  have r18:k = 18 → (∀ a b c,M.R a b → M.R b c → M.R a c) ∧ ∀ P:M.W → Prop,(∀ w,(∀ u,M.R w u → P u) → P w) → ∀ w,P w:=by
   intro e;subst e
   have:s = 9:=by
    have key:∀ s:Fin 10,18 ∈ sysS s.val → s.val = 9:=by decide
    exact key ⟨s,by omega⟩ hk
   exact ok1 this
  rcases (show k = 0 ∨ k = 1 ∨ k = 2 ∨ k = 3 ∨ k = 4 ∨ k = 5 ∨ k = 6 ∨ k = 7 ∨ k = 8 ∨ k = 9 ∨ k = 10 ∨ k = 11 ∨ k = 12 ∨ k = 13 ∨ k = 14 ∨ k = 15 ∨ k = 16 ∨ k = 17 ∨ k = 18 by omega) with h | h | h | h | h | h | h | h | h | h | h | h | h | h | h | h | h | h | h <;> subst h
  ·exact fun hp _=>hp
  ·exact fun h1 h2 hp=>h1 hp (h2 hp)
  ·exact fun h=>h.1
  ·exact fun h=>h.2
  ·exact fun hp hq=>⟨hp,hq⟩
  ·exact fun h=>.inl h
  ·exact fun h=>.inr h
  ·exact fun h1 h2 h=>h.elim h1 h2
  ·exact fun h=>h.elim
  ·exact fun h=>Classical.byContradiction h
  ·exact fun h1 h2 u hu=>h1 u hu (h2 u hu)
  ·exact fun ⟨u,hu,hp⟩ h=>h u hu hp
  ·exact fun h=>Classical.byContradiction fun h2=>h fun u hu hp=>h2 ⟨u,hu,hp⟩
  ·exact fun h=>h w (req rfl w)
  ·exact fun h u hu x hx=>h x (r14 rfl _ _ _ hu hx)
  ·exact fun ⟨u,hu,hp⟩ x hx=>⟨u,r15 rfl _ _ _ hx hu,hp⟩
  ·exact fun hp u hu=>⟨w,r16 rfl _ _ hu,hp⟩
  ·exact fun h=>let ⟨u,hu⟩:=r17 rfl w;⟨u,hu,h u hu⟩
  ·obtain ⟨ht,hi⟩:=r18 rfl
   intro h
   have key:∀ u,M.R w u → M.f (inst g (.var 0)) u:=hi (fun u=>M.R w u → M.f (inst g (.var 0)) u) fun u ih hu=>h u hu fun x hx=>ih x hx (ht _ _ _ hu hx)
   exact key
theorem SysV.mp {s:Nat} {a b:Fm} (h:SysV s (.imp a b)) (ha:SysV s a):SysV s b:=by
 unfold SysV at *
 split at h
 ·rename_i h0
  rw [if_pos h0] at ha ⊢
  exact fun M w hw=>h M w hw w (M.refl w) (ha M w hw)
 ·rename_i h0
  rw [if_neg h0] at ha ⊢
  exact fun M hM w=>h M hM w (ha M hM w)
theorem SysV.nec {s:Nat} {a:Fm} (hs:2 ≤ s) (ha:SysV s a):SysV s (.box a):=by
 unfold SysV at *
 rw [if_neg (by omega)] at ha ⊢
 exact fun M hM _ u _=>ha M hM u
end Go.Vc

namespace Go.Vc
abbrev RN:=Int × Int
def rcell (q:RN):List Value:=[.int .i64 q.1,.int .i64 q.2]
def aU (N:List RN):List Value:=N.flatMap rcell
def rawF:Fm → List RN
 | .var v=>[(0,(v:Int))]
 | .fls=>[(1,0)]
 | .and a b=>(2,0) :: (rawF a ++ rawF b)
 | .or a b=>(3,0) :: (rawF a ++ rawF b)
 | .imp a b=>(4,0) :: (rawF a ++ rawF b)
 | .box a=>(5,0) :: rawF a
 | .dia a=>(6,0) :: rawF a
theorem dO (q:RN) (N:List RN):aU (q :: N) = rcell q ++ aU N:=by simp [aU]
theorem kL (M N:List RN):aU (M ++ N) = aU M ++ aU N:=by simp [aU]
theorem a9:∀ f:Fm,aU (rawF f) = f.cells
 | .var v=>rfl
 | .fls=>rfl
 | .and a b=>by rw [rawF,dO,kL,a9 a,a9 b];simp [Fm.cells,rcell]
 | .or a b=>by rw [rawF,dO,kL,a9 a,a9 b];simp [Fm.cells,rcell]
 | .imp a b=>by rw [rawF,dO,kL,a9 a,a9 b];simp [Fm.cells,rcell]
 | .box a=>by rw [rawF,dO,a9 a];simp [Fm.cells,rcell]
 | .dia a=>by rw [rawF,dO,a9 a];simp [Fm.cells,rcell]
theorem aG:∀ f:Fm,(rawF f).length = f.size
 | .var _=>rfl
 | .fls=>rfl
 | .and a b=>by simp only [rawF,Fm.size,List.length_cons,List.length_append,aG a,aG b];omega
 | .or a b=>by simp only [rawF,Fm.size,List.length_cons,List.length_append,aG a,aG b];omega
 | .imp a b=>by simp only [rawF,Fm.size,List.length_cons,List.length_append,aG a,aG b];omega
 | .box a=>by simp only [rawF,Fm.size,List.length_cons,aG a];omega
 | .dia a=>by simp only [rawF,Fm.size,List.length_cons,aG a];omega
theorem OF (N:List RN):(aU N).length = N.length * 2:=by
 induction N with
 | nil=>rfl
 | cons q N ih=>rw [dO,List.length_append,ih,List.length_cons];show 2 + _ = _;omega
theorem iD:∀ {N:List RN} {i:Nat} (h:i < N.length),(aU N)[i * 2 + 0]? = some (.int .i64 N[i].1) ∧ (aU N)[i * 2 + 1]? = some (.int .i64 N[i].2)
 | [],_,h=>by simp at h
 | q :: N,0,_=>⟨rfl,rfl⟩
 | q :: N,i + 1,h=>by
  have:=iD (N:=N) (i:=i) (by simpa using h)
  have e:∀ f,(aU (q :: N))[(i + 1) * 2 + f]? = (aU N)[i * 2 + f]?:=fun f=>by
   rw [dO,List.getElem?_append_right (by simp [rcell];omega)]
   congr 1
   simp [rcell];omega
  rw [e,e]
  simpa using this
def okN (q:RN):Bool:=decide (0 ≤ q.1 ∧ q.1 ≤ 6) && (decide (0 ≤ q.2 ∧ q.2 ≤ 5) && (decide (q.1 = 0) || decide (q.2 = 0)))
theorem PS {q:RN}:okN q = true ↔ (0 ≤ q.1 ∧ q.1 ≤ 6) ∧ (0 ≤ q.2 ∧ q.2 ≤ 5) ∧ (q.1 = 0 ∨ q.2 = 0):=by
 unfold okN
 rw [Bool.and_eq_true,Bool.and_eq_true,Bool.or_eq_true,decide_eq_true_eq,decide_eq_true_eq,decide_eq_true_eq,decide_eq_true_eq]
def arZ (k:Int):Nat:=if k = 2 ∨ k = 3 ∨ k = 4 then 2 else if k = 5 ∨ k = 6 then 1 else 0
theorem UL (k:Nat):arZ (k:Int) = arity k:=by
 unfold arZ arity
 have h1:((k:Int) = 2 ∨ (k:Int) = 3 ∨ (k:Int) = 4) ↔ (k = 2 ∨ k = 3 ∨ k = 4):=by omega
 have h2:((k:Int) = 5 ∨ (k:Int) = 6) ↔ (k = 5 ∨ k = 6):=by omega
 by_cases c1:k = 2 ∨ k = 3 ∨ k = 4
 ·rw [if_pos (h1.2 c1),if_pos c1]
 ·rw [if_neg (fun h=>c1 (h1.1 h)),if_neg c1]
  by_cases c2:k = 5 ∨ k = 6
  ·rw [if_pos (h2.2 c2),if_pos c2]
  ·rw [if_neg (fun h=>c2 (h2.1 h)),if_neg c2]
def goN:List RN → Nat → Option (List RN)
 | N,0=>some N
 | [],_ + 1=>none
 | q :: N,o + 1=>goN N (o + arZ q.1)
theorem FL (N:List RN):goN N 0 = some N:=by cases N <;> rfl
theorem SX (q:RN) (N:List RN) (o:Nat):goN (q :: N) (o + 1) = goN N (o + arZ q.1):=rfl
theorem m4:∀ (f:Fm) (R:List RN) (o:Nat),goN (rawF f ++ R) (o + 1) = goN R o
 | .var v,R,o=>rfl
 | .fls,R,o=>rfl
 | .and a b,R,o=>by
  show goN (rawF a ++ rawF b ++ R) (o + 1 + 1) = _
  rw [List.append_assoc,m4 a,m4 b]
 | .or a b,R,o=>by
  show goN (rawF a ++ rawF b ++ R) (o + 1 + 1) = _
  rw [List.append_assoc,m4 a,m4 b]
 | .imp a b,R,o=>by
  show goN (rawF a ++ rawF b ++ R) (o + 1 + 1) = _
  rw [List.append_assoc,m4 a,m4 b]
 | .box a,R,o=>by
  show goN (rawF a ++ R) (o + 1) = _
  rw [m4 a]
 | .dia a,R,o=>by
  show goN (rawF a ++ R) (o + 1) = _
  rw [m4 a]
theorem RE:∀ (N:List RN) (o:Nat) (R:List RN),(∀ q ∈ N,okN q = true) → goN N o = some R → ∃ fs:List Fm,fs.length = o ∧ (∀ f ∈ fs,f.good) ∧ N = fs.flatMap rawF ++ R
 | N,0,R,_,h=>by
  rw [FL] at h
  refine ⟨[],rfl,fun f hf=>?_,?_⟩
  ·cases hf
  ·exact Option.some.inj h
 | [],o + 1,R,_,h=>by cases h
 | q :: N,o + 1,R,hok,h=>by
  rw [SX] at h
  obtain ⟨fs,hl,hg,hN⟩:=RE N (o + arZ q.1) R (fun x hx=>hok x (List.mem_cons_of_mem _ hx)) h
  obtain ⟨k,s⟩:=q
  have hq:=PS.1 (hok _ List.mem_cons_self)
  obtain ⟨⟨k0,k6⟩,⟨s0,s5⟩,hks⟩:=hq
  have k0:0 ≤ k:=k0
  have k6:k ≤ 6:=k6
  have s0:0 ≤ s:=s0
  have s5:s ≤ 5:=s5
  have hks:k = 0 ∨ s = 0:=hks
  have hl:fs.length = o + arZ k:=hl
  have two:∀ {c:Fm → Fm → Fm} {kk:Int},k = kk → arZ k = 2 → s = 0 → (∀ a b,rawF (c a b) = (kk,0) :: (rawF a ++ rawF b)) → (∀ a b,a.good → b.good → (c a b).good) → ∃ fs:List Fm,fs.length = o + 1 ∧ (∀ f ∈ fs,f.good) ∧ (k,s) :: N = fs.flatMap rawF ++ R:=by
   intro c kk hk h2 hs hc hcg
   rw [h2] at hl
   match fs,hl,hg,hN with
   | a :: b :: fs,hl,hg,hN=>
    refine ⟨c a b :: fs,by simpa using hl,fun f hf=>?_,?_⟩
    ·rcases List.mem_cons.1 hf with rfl | hf
     ·exact hcg _ _ (hg a (by simp)) (hg b (by simp))
     ·exact hg f (by simp [hf])
    ·rw [hN,hk,hs];simp [hc]
  have one:∀ {c:Fm → Fm} {kk:Int},k = kk → arZ k = 1 → s = 0 → (∀ a,rawF (c a) = (kk,0) :: rawF a) → (∀ a,a.good → (c a).good) → ∃ fs:List Fm,fs.length = o + 1 ∧ (∀ f ∈ fs,f.good) ∧ (k,s) :: N = fs.flatMap rawF ++ R:=by
   intro c kk hk h2 hs hc hcg
   rw [h2] at hl
   match fs,hl,hg,hN with
   | a :: fs,hl,hg,hN=>
    refine ⟨c a :: fs,by simpa using hl,fun f hf=>?_,?_⟩
    ·rcases List.mem_cons.1 hf with rfl | hf
     ·exact hcg _ (hg a (by simp))
     ·exact hg f (by simp [hf])
    ·rw [hN,hk,hs];simp [hc]
  have nul:∀ {c:Fm},arZ k = 0 → rawF c = [(k,s)] → c.good → ∃ fs:List Fm,fs.length = o + 1 ∧ (∀ f ∈ fs,f.good) ∧ (k,s) :: N = fs.flatMap rawF ++ R:=by
   intro c h2 hc hcg
   rw [h2] at hl
   refine ⟨c :: fs,by rw [List.length_cons];omega,fun f hf=>?_,?_⟩
   ·rcases List.mem_cons.1 hf with rfl | hf
    ·exact hcg
    ·exact hg f hf
   ·rw [hN,List.flatMap_cons,hc];simp
  have hcase:k = 0 ∨ k = 1 ∨ k = 2 ∨ k = 3 ∨ k = 4 ∨ k = 5 ∨ k = 6:=by omega
  rcases hcase with h | h | h | h | h | h | h
  ·refine nul (c:=.var s.toNat) (by rw [h];rfl) ?_ (show s.toNat < 6 by omega)
   rw [h]
   show [(0,((s.toNat:Nat):Int))] = _
   rw [Int.toNat_of_nonneg s0]
  ·have hs:s = 0:=by omega
   exact nul (c:=.fls) (by rw [h];rfl) (by rw [h,hs];rfl) trivial
  ·exact two (c:=.and) h (by rw [h];rfl) (by omega) (fun _ _=>rfl) fun _ _ h1 h2=>⟨h1,h2⟩
  ·exact two (c:=.or) h (by rw [h];rfl) (by omega) (fun _ _=>rfl) fun _ _ h1 h2=>⟨h1,h2⟩
  ·exact two (c:=.imp) h (by rw [h];rfl) (by omega) (fun _ _=>rfl) fun _ _ h1 h2=>⟨h1,h2⟩
  ·exact one (c:=.box) h (by rw [h];rfl) (by omega) (fun _=>rfl) fun _ h1=>h1
  ·exact one (c:=.dia) h (by rw [h];rfl) (by omega) (fun _=>rfl) fun _ h1=>h1
theorem nF:∀ {f:Fm},f.good → ∀ q ∈ rawF f,okN q = true
 | .var v,h,q,hq=>by
  simp only [rawF,List.mem_singleton] at hq
  subst hq
  have h:v < 6:=h
  exact PS.2 ⟨by simp,by simp;omega,.inl rfl⟩
 | .fls,_,q,hq=>by simp only [rawF,List.mem_singleton] at hq;subst hq;rfl
 | .and a b,h,q,hq=>by
  simp only [rawF,List.mem_cons,List.mem_append] at hq
  rcases hq with rfl | hq | hq
  ·rfl
  ·exact nF h.1 q hq
  ·exact nF h.2 q hq
 | .or a b,h,q,hq=>by
  simp only [rawF,List.mem_cons,List.mem_append] at hq
  rcases hq with rfl | hq | hq
  ·rfl
  ·exact nF h.1 q hq
  ·exact nF h.2 q hq
 | .imp a b,h,q,hq=>by
  simp only [rawF,List.mem_cons,List.mem_append] at hq
  rcases hq with rfl | hq | hq
  ·rfl
  ·exact nF h.1 q hq
  ·exact nF h.2 q hq
 | .box a,h,q,hq=>by
  simp only [rawF,List.mem_cons] at hq
  rcases hq with rfl | hq
  ·rfl
  ·exact nF (f:=a) h q hq
 | .dia a,h,q,hq=>by
  simp only [rawF,List.mem_cons] at hq
  rcases hq with rfl | hq
  ·rfl
  ·exact nF (f:=a) h q hq
def treeN (N:List RN):Bool:=N.all okN && decide (goN N 1 = some [])
def isN (N:List RN):Bool:=decide (N.length ≤ 40) && treeN N
theorem W3 {N:List RN}:treeN N = true ↔ ∃ f:Fm,f.good ∧ N = rawF f:=by
 unfold treeN
 rw [Bool.and_eq_true,decide_eq_true_eq,List.all_eq_true]
 constructor
 ·rintro ⟨h1,h2⟩
  obtain ⟨fs,hl,hg,hN⟩:=RE N 1 [] h1 h2
  match fs,hl,hg,hN with
  | [f],_,hg,hN=>exact ⟨f,hg f (by simp),by simpa using hN⟩
 ·rintro ⟨f,hg,rfl⟩
  refine ⟨nF hg,?_⟩
  have:=m4 f [] 0
  rw [List.append_nil] at this
  rw [this];rfl
theorem yS {N:List RN}:isN N = true ↔ ∃ f:Fm,f.good ∧ f.size ≤ 40 ∧ N = rawF f:=by
 unfold isN
 rw [Bool.and_eq_true,decide_eq_true_eq,W3]
 constructor
 ·rintro ⟨h,f,hg,rfl⟩
  exact ⟨f,hg,by rwa [aG] at h,rfl⟩
 ·rintro ⟨f,hg,h,rfl⟩
  exact ⟨by rwa [aG],f,hg,rfl⟩
end Go.Vc

namespace Go.Vc
def updO (g:Nat → Option Fm) (v:Nat) (x:Fm):Nat → Option Fm:=fun k=>if k = v then some x else g k
def aY:Nat → List Fm → List Fm → (Nat → Option Fm) → Option (Nat → Option Fm)
 | 0,_,_,g=>some g
 | _ + 1,[],_,g=>some g
 | _ + 1,_ :: _,[],_=>none
 | n + 1,.var v :: fs,x :: xs,g=>if g v = none ∨ g v = some x then aY n fs xs (updO g v x) else none
 | n + 1,f :: fs,x :: xs,g=>if f.kind = x.kind then aY n (f.kids ++ fs) (x.kids ++ xs) g else none
def outO (g:Nat → Option Fm):Nat → Fm:=fun v=>(g v).getD .fls
theorem oH {n:Nat} {f x:Fm} {fs xs:List Fm} {g:Nat → Option Fm} (hf:¬ f.kind = 0):aY (n + 1) (f :: fs) (x :: xs) g = if f.kind = x.kind then aY n (f.kids ++ fs) (x.kids ++ xs) g else none:=by
 cases f with
 | var v=>exact absurd rfl hf
 | _=>rfl
theorem WV {h:Nat → Fm} {f x:Fm} (hf:¬ f.kind = 0) (hk:f.kind = x.kind) (he:x.kids = f.kids.map (inst h)):x = inst h f:=by
 cases f with
 | var v=>exact absurd rfl hf
 | fls=>cases x <;> first | rfl | cases hk
 | and a b=>cases x with
  | and c d=>simp [Fm.kids] at he;rw [he.1,he.2];rfl
  | _=>cases hk
 | or a b=>cases x with
  | or c d=>simp [Fm.kids] at he;rw [he.1,he.2];rfl
  | _=>cases hk
 | imp a b=>cases x with
  | imp c d=>simp [Fm.kids] at he;rw [he.1,he.2];rfl
  | _=>cases hk
 | box a=>cases x with
  | box c=>simp [Fm.kids] at he;rw [he];rfl
  | _=>cases hk
 | dia a=>cases x with
  | dia c=>simp [Fm.kids] at he;rw [he];rfl
  | _=>cases hk
theorem XV {h:Nat → Fm} {f:Fm} (hf:¬ f.kind = 0):(inst h f).kind = f.kind ∧ (inst h f).kids = f.kids.map (inst h):=by
 cases f with
 | var v=>exact absurd rfl hf
 | _=>exact ⟨rfl,rfl⟩
theorem FV {a b:Fm} (h:a.kind = b.kind):a.kids.length = b.kids.length:=by
 cases a <;> cases b <;> first | rfl | cases h
theorem zN:∀ {n:Nat} {fs xs:List Fm} {g t:Nat → Option Fm},sizeL fs ≤ n → aY n fs xs g = some t → (∀ v x,g v = some x → t v = some x) ∧ ∃ rest,xs = fs.map (inst (outO t)) ++ rest
 | 0,[],xs,g,t,_,h=>by cases h;exact ⟨fun _ _ h=>h,xs,rfl⟩
 | 0,f :: fs,xs,g,t,hn,h=>by have:=f.size_pos;simp [sizeL] at hn;omega
 | n + 1,[],xs,g,t,_,h=>by cases h;exact ⟨fun _ _ h=>h,xs,rfl⟩
 | n + 1,f :: fs,[],g,t,_,h=>by cases f <;> cases h
 | n + 1,f :: fs,x :: xs,g,t,hn,h=>by
  have hsz:sizeL (f :: fs) = f.size + sizeL fs:=by simp [sizeL]
  by_cases hf:f.kind = 0
  ·obtain ⟨v,rfl⟩:∃ v,f = .var v:=by
    cases f with
    | var v=>exact ⟨v,rfl⟩
    | _=>cases hf
   rw [aY] at h
   split at h
   ·rename_i hg
    have h1:(Fm.var v).size = 1:=rfl
    obtain ⟨k1,rest,k2⟩:=zN (n:=n) (by omega) h
    refine ⟨fun u y hy=>?_,rest,?_⟩
    ·refine k1 u y ?_
     unfold updO
     by_cases e:u = v
     ·subst e
      rw [if_pos rfl]
      rcases hg with hg | hg
      ·rw [hg] at hy;cases hy
      ·rw [hg] at hy;exact hy
     ·rw [if_neg e];exact hy
    ·have:t v = some x:=k1 v x (by unfold updO;rw [if_pos rfl])
     rw [List.map_cons,List.cons_append,← k2]
     congr 1
     show x = outO t v
     unfold outO;rw [this];rfl
   ·cases h
  ·rw [oH hf] at h
   split at h
   ·rename_i hk
    have h1:sizeL (f.kids ++ fs) + 1 = sizeL (f :: fs):=by
     rw [hsz]
     cases f <;> simp [Fm.kids,sizeL,Fm.size] <;> omega
    obtain ⟨k1,rest,k2⟩:=zN (n:=n) (by omega) h
    refine ⟨k1,rest,?_⟩
    rw [List.map_append,List.append_assoc] at k2
    have hl:=FV hk
    obtain ⟨e1,e2⟩:=List.append_inj k2 (by rw [List.length_map,hl])
    rw [List.map_cons,List.cons_append,← e2,← WV hf hk e1]
   ·cases h
theorem CH:∀ {n:Nat} {fs rest:List Fm} {g:Nat → Option Fm} {h:Nat → Fm},(∀ v x,g v = some x → h v = x) → (aY n fs (fs.map (inst h) ++ rest) g).isSome = true
 | 0,fs,rest,g,h,_=>rfl
 | n + 1,[],rest,g,h,_=>rfl
 | n + 1,f :: fs,rest,g,h,hg=>by
  rw [List.map_cons,List.cons_append]
  by_cases hf:f.kind = 0
  ·obtain ⟨v,rfl⟩:∃ v,f = .var v:=by
    cases f with
    | var v=>exact ⟨v,rfl⟩
    | _=>cases hf
   rw [aY,if_pos]
   ·refine CH fun u x hu=>?_
    unfold updO at hu
    split at hu
    ·rename_i e;subst e;cases hu;rfl
    ·exact hg u x hu
   ·cases hv:g v with
    | none=>exact .inl rfl
    | some x=>exact .inr (by rw [show inst h (.var v) = h v from rfl,hg v x hv])
  ·obtain ⟨k1,k2⟩:=XV (h:=h) hf
   rw [oH hf,if_pos k1.symm,k2,← List.append_assoc,← List.map_append]
   exact CH hg
def mtc (k:Nat) (a:Fm):Bool:=(aY (schF k).size [schF k] [a] fun _=>none).isSome
theorem UN {k:Nat} {a:Fm}:mtc k a = true ↔ ∃ h,a = inst h (schF k):=by
 unfold mtc
 constructor
 ·intro h
  cases e:aY (schF k).size [schF k] [a] fun _=>none with
  | none=>rw [e] at h;cases h
  | some t=>
   obtain ⟨-,rest,k2⟩:=zN (by simp [sizeL]) e
   rw [List.map_singleton,List.singleton_append,List.cons.injEq] at k2
   exact ⟨_,k2.1⟩
 ·rintro ⟨h,rfl⟩
  have:=CH (n:=(schF k).size) (fs:=[schF k]) (rest:=[]) (g:=fun _=>none) (h:=h) (fun v x hx=>by cases hx)
  simpa using this
/-! ### Lines -/
structure HL where
 rule:Int
 first:Int
 second:Int
 N:List RN
instance:Inhabited HL:=⟨⟨0,0,0,[]⟩⟩
noncomputable def fmN (N:List RN):Fm:=open Classical in if h:∃ a:Fm,N = rawF a then Classical.choose h else .fls
theorem pT {a b:Fm} (h:rawF a = rawF b):a = b:=RB (by rw [← a9,← a9,h])
theorem KD (a:Fm):fmN (rawF a) = a:=by
 unfold fmN
 have h:∃ b:Fm,rawF a = rawF b:=⟨a,rfl⟩
 rw [dif_pos h]
 exact (pT (Classical.choose_spec h)).symm
def bE (u:List Bool) (x:HL):Bool:=if x.rule = 2 then true else if x.rule = 3 then gt u x.first.toNat || gt u x.second.toNat else if x.rule = 4 then gt u x.first.toNat else false
def usesB (L:List HL):List Bool:=L.foldl (fun u x=>u ++ [bE u x]) []
theorem V1 (L:List HL) (x:HL):usesB (L ++ [x]) = usesB L ++ [bE (usesB L) x]:=by simp [usesB]
theorem Q7 (L:List HL):(usesB L).length = L.length:=by
 unfold usesB
 suffices h:∀ (L:List HL) (u:List Bool),(L.foldl (fun u x=>u ++ [bE u x]) u).length = u.length + L.length by simpa using h L []
 intro L
 induction L with
 | nil=>intro u;rfl
 | cons x L ih=>
  intro u
  rw [List.foldl_cons,ih]
  simp only [List.length_append,List.length_cons,List.length_nil];omega
noncomputable def goodH (s:Nat) (H:List (List RN)) (L:List HL) (k:Nat) (x:HL):Bool:=
 isN x.N && (if x.rule = 1 then decide (x.second = 0) && (decide (0 ≤ x.first) && (decide (x.first.toNat ∈ sysS s) && mtc x.first.toNat (fmN x.N)))
  else if x.rule = 2 then decide (x.second = 0) && (decide (0 ≤ x.first ∧ x.first ≤ (H.length:Int) - 1) && decide (gt H x.first.toNat = x.N))
  else if x.rule = 3 then decide (0 ≤ x.first ∧ x.first ≤ (k:Int) - 1) && (decide (0 ≤ x.second ∧ x.second ≤ (k:Int) - 1) && decide ((gt L x.first.toNat).N = (4,0) :: ((gt L x.second.toNat).N ++ x.N)))
  else if x.rule = 4 then decide (2 ≤ s) && (decide (x.second = 0) && (decide (0 ≤ x.first ∧ x.first ≤ (k:Int) - 1) && (!(gt (usesB (L.take k)) x.first.toNat) && decide (x.N = (5,0) :: (gt L x.first.toNat).N))))
  else false)
end Go.Vc

namespace Go.Vc
theorem dI {N:List RN} (h:isN N = true):∃ a:Fm,a.good ∧ a.size ≤ 40 ∧ N = rawF a:=yS.1 h
theorem XN {s:Nat} (hs:s ≤ 9) {L:List HL} (hall:∀ k,k < L.length → goodH s [] L k (gt L k) = true):∀ k,k < L.length → ∃ a:Fm,a.good ∧ a.size ≤ 40 ∧ (gt L k).N = rawF a ∧ SysV s a:=by
 intro k
 induction k using Nat.strongRecOn with
 | ind k ih=>
  intro hk
  have h:=hall k hk
  unfold goodH at h
  rw [Bool.and_eq_true] at h
  obtain ⟨hN,h⟩:=h
  obtain ⟨a,ga,sa,hN⟩:=dI hN
  refine ⟨a,ga,sa,hN,?_⟩
  split at h
  ·simp only [Bool.and_eq_true,decide_eq_true_eq] at h
   obtain ⟨-,-,h1,h2⟩:=h
   rw [hN,KD] at h2
   obtain ⟨g,rfl⟩:=UN.1 h2
   exact V5 hs h1 g
  split at h
  ·simp only [Bool.and_eq_true,decide_eq_true_eq,List.length_nil] at h
   omega
  split at h
  ·simp only [Bool.and_eq_true,decide_eq_true_eq] at h
   obtain ⟨h1,h2,h3⟩:=h
   obtain ⟨c,-,-,hc,vc⟩:=ih (gt L k).first.toNat (by omega) (by omega)
   obtain ⟨b,-,-,hb,vb⟩:=ih (gt L k).second.toNat (by omega) (by omega)
   rw [hc,hb,hN] at h3
   have:c = .imp b a:=pT h3
   subst this
   exact vc.mp vb
  split at h
  ·simp only [Bool.and_eq_true,decide_eq_true_eq] at h
   obtain ⟨h1,-,h2,-,h3⟩:=h
   obtain ⟨b,-,-,hb,vb⟩:=ih (gt L k).first.toNat (by omega) (by omega)
   rw [hb,hN] at h3
   have:a = .box b:=pT h3
   subst this
   exact vb.nec h1
  ·cases h
end Go.Vc

namespace Go.Vc
abbrev impN (A B:List RN):List RN:=(4,0) :: (A ++ B)
theorem bK {α:Type} [Inhabited α] {A B:List α} {i:Nat} (h:i < A.length):gt (A ++ B) i = gt A i:=by
 rw [gt_eq (by rw [List.length_append];omega),gt_eq h,List.getElem_append_left h]
theorem bT {α:Type} [Inhabited α] (A:List α) (x:α):gt (A ++ [x]) A.length = x:=by
 rw [gt_eq (by simp),List.getElem_append_right (Nat.le_refl _)];simp
theorem Q3:∀ (M:List HL) (u:List Bool),∃ X,M.foldl (fun u x=>u ++ [bE u x]) u = u ++ X
 | [],u=>⟨[],by simp⟩
 | x :: M,u=>by
  obtain ⟨X,hX⟩:=Q3 M (u ++ [bE u x])
  exact ⟨[bE u x] ++ X,by rw [List.foldl_cons,hX,List.append_assoc]⟩
theorem MP (L M:List HL) {j:Nat} (h:j < L.length):gt (usesB (L ++ M)) j = gt (usesB L) j:=by
 obtain ⟨X,hX⟩:=Q3 M (usesB L)
 rw [show usesB (L ++ M) = usesB L ++ X by rw [← hX];simp [usesB]]
 exact bK (by rw [Q7];exact h)
theorem kB {L:List HL} {k j:Nat} (h:j < k) (hk:k ≤ L.length):gt (usesB (L.take k)) j = gt (usesB L) j:=by
 have:=MP (L.take k) (L.drop k) (j:=j) (by rw [List.length_take];omega)
 rw [List.take_append_drop] at this
 exact this.symm
theorem Q9 (L:List HL) (x:HL):gt (usesB (L ++ [x])) L.length = bE (usesB L) x:=by
 rw [V1]
 have:=bT (usesB L) (bE (usesB L) x)
 rwa [Q7] at this
theorem yT {L:List HL} {k:Nat} (hk:k < L.length):gt (usesB L) k = bE (usesB (L.take k)) (gt L k):=by
 have h1:=kB (L:=L) (k:=k + 1) (j:=k) (by omega) (by omega)
 rw [List.take_succ_eq_append_getElem hk] at h1
 have h2:=Q9 (L.take k) L[k]
 rw [List.length_take,Nat.min_eq_left (by omega)] at h2
 rw [← h1,h2,gt_eq hk]
theorem RQ {s:Nat} {H:List (List RN)} {out M:List HL} {i:Nat} {y:HL} (hi:i ≤ out.length):goodH s H (out ++ M) i y = goodH s H out i y:=by
 unfold goodH
 congr 1
 split
 ·rfl
 split
 ·rfl
 split
 ·by_cases h1:0 ≤ y.first ∧ y.first ≤ (i:Int) - 1
  ·by_cases h2:0 ≤ y.second ∧ y.second ≤ (i:Int) - 1
   ·rw [bK (show y.first.toNat < out.length by omega),bK (show y.second.toNat < out.length by omega)]
   ·rw [decide_eq_false h2];simp
  ·rw [decide_eq_false h1];simp
 split
 ·by_cases h1:0 ≤ y.first ∧ y.first ≤ (i:Int) - 1
  ·rw [bK (show y.first.toNat < out.length by omega),List.take_append_of_le_length hi]
  ·rw [decide_eq_false h1];simp
 ·rfl
def Dis4 (s:Nat) (H:List (List RN)) (out:List HL):Prop:=∀ i,i < out.length → isN (gt out i).N = true → goodH s H out i (gt out i) = true
theorem Dis4.push {s:Nat} {H:List (List RN)} {out:List HL} {x:HL} (h:Dis4 s H out) (hx:isN x.N = true → goodH s H out out.length x = true):Dis4 s H (out ++ [x]):=fun i hi hn=>by
 rw [List.length_append,List.length_singleton] at hi
 by_cases e:i < out.length
 ·rw [bK e] at hn ⊢
  rw [RQ (by omega)]
  exact h i e hn
 ·have:i = out.length:=by omega
  subst this
  rw [bT] at hn ⊢
  rw [RQ (Nat.le_refl _)]
  exact hx hn
theorem zE {s k i:Nat} {H:List (List RN)} {out:List HL} {N:List RN} {g:Nat → Fm} (hk:k ∈ sysS s) (hN:N = rawF (inst g (schF k))) (hn:isN N = true):goodH s H out i ⟨1,(k:Int),0,N⟩ = true:=by
 unfold goodH
 rw [hn,Bool.true_and,if_pos rfl]
 simp only [Bool.and_eq_true,decide_eq_true_eq,Int.toNat_natCast]
 refine ⟨by trivial,Int.natCast_nonneg k,hk,?_⟩
 rw [hN,KD]
 exact UN.2 ⟨g,rfl⟩
theorem yW {s i:Nat} {H:List (List RN)} {out:List HL} {N:List RN} {f1 f2:Int} (h1:0 ≤ f1 ∧ f1 < i) (h2:0 ≤ f2 ∧ f2 < i) (he:(gt out f1.toNat).N = impN (gt out f2.toNat).N N) (hn:isN N = true):goodH s H out i ⟨3,f1,f2,N⟩ = true:=by
 unfold goodH
 rw [hn,Bool.true_and,if_neg (show ¬ (3:Int) = 1 by decide),if_neg (show ¬ (3:Int) = 2 by decide),if_pos rfl]
 simp only [Bool.and_eq_true,decide_eq_true_eq]
 exact ⟨by omega,by omega,he⟩
theorem sys01 {s:Nat} (hs:s ≤ 9):0 ∈ sysS s ∧ 1 ∈ sysS s:=by
 have key:∀ s:Fin 10,0 ∈ sysS s.val ∧ 1 ∈ sysS s.val:=by decide
 exact key ⟨s,by omega⟩
structure DS where
 out:List HL
 own:List Int
 lift:List Int
def mvH (x:HL) (own:List Int):HL:=if x.rule = 3 then ⟨x.rule,gt own x.first.toNat,gt own x.second.toNat,x.N⟩ else if x.rule = 4 then ⟨x.rule,gt own x.first.toNat,x.second,x.N⟩ else x
def weakL (a c:List RN) (n:Int):List HL:=[⟨1,0,0,impN c (impN a c)⟩,⟨3,n + 1,n,impN a c⟩]
def cN (a:List RN) (last:Int) (L:List HL) (u:Bool) (S:DS) (x:HL):DS:=
 let n:=(S.out.length:Int)
 if u = false then ⟨S.out ++ ([mvH x S.own] ++ weakL a x.N n),S.own ++ [n],S.lift ++ [n + 2]⟩
 else if x.rule = 2 ∧ x.first = last then
  ⟨S.out ++ [⟨1,0,0,impN a (impN (impN a a) a)⟩,⟨1,1,0,impN (impN a (impN (impN a a) a)) (impN (impN a (impN a a)) (impN a a))⟩,⟨3,n + 1,n,impN (impN a (impN a a)) (impN a a)⟩,⟨1,0,0,impN a (impN a a)⟩,⟨3,n + 2,n + 3,impN a a⟩],S.own ++ [0],S.lift ++ [n + 4]⟩
 else if x.rule = 2 then ⟨S.out ++ ([⟨2,x.first,0,x.N⟩] ++ weakL a x.N n),S.own ++ [0],S.lift ++ [n + 2]⟩
 else ⟨S.out ++ [⟨1,1,0,impN (impN a (impN (gt L x.second.toNat).N x.N)) (impN (impN a (gt L x.second.toNat).N) (impN a x.N))⟩,⟨3,n,gt S.lift x.first.toNat,impN (impN a (gt L x.second.toNat).N) (impN a x.N)⟩,⟨3,n + 1,gt S.lift x.second.toNat,impN a x.N⟩],S.own ++ [0],S.lift ++ [n + 2]⟩
def disK (a:List RN) (last:Int) (L:List HL):Nat → DS
 | 0=>⟨[],[],[]⟩
 | k + 1=>cN a last L (gt (usesB L) k) (disK a last L k) (gt L k)
structure DisI (s:Nat) (H:List (List RN)) (a:List RN) (L:List HL) (k:Nat) (S:DS):Prop where
 own:S.own.length = k
 lift:S.lift.length = k
 good:Dis4 s H S.out
 imp:∀ j,j < k → 0 ≤ gt S.lift j ∧ gt S.lift j < S.out.length ∧ (gt S.out (gt S.lift j).toNat).N = impN a (gt L j).N
 kept:∀ j,j < k → gt (usesB L) j = false → 0 ≤ gt S.own j ∧ gt S.own j < S.out.length ∧ (gt S.out (gt S.own j).toNat).N = (gt L j).N ∧ gt (usesB S.out) (gt S.own j).toNat = false
theorem DisI.next {s:Nat} {H:List (List RN)} {a:List RN} {L:List HL} {k:Nat} {S:DS} {X:List HL} {o l:Int} (h:DisI s H a L k S) (hg:Dis4 s H (S.out ++ X)) (hl:0 ≤ l ∧ l < (S.out ++ X).length ∧ (gt (S.out ++ X) l.toNat).N = impN a (gt L k).N)
  (ho:gt (usesB L) k = false → 0 ≤ o ∧ o < (S.out ++ X).length ∧ (gt (S.out ++ X) o.toNat).N = (gt L k).N ∧ gt (usesB (S.out ++ X)) o.toNat = false):DisI s H a L (k + 1) ⟨S.out ++ X,S.own ++ [o],S.lift ++ [l]⟩:=by
 have hlen:(S.out ++ X).length = S.out.length + X.length:=List.length_append
 refine ⟨by rw [List.length_append,h.own];rfl,by rw [List.length_append,h.lift];rfl,hg,fun j hj=>?_,fun j hj hu=>?_⟩
 ·by_cases e:j < k
  ·obtain ⟨h1,h2,h3⟩:=h.imp j e
   show 0 ≤ gt (S.lift ++ [l]) j ∧ gt (S.lift ++ [l]) j < (S.out ++ X).length ∧ (gt (S.out ++ X) (gt (S.lift ++ [l]) j).toNat).N = _
   rw [bK (show j < S.lift.length by rw [h.lift];exact e),bK (show (gt S.lift j).toNat < S.out.length by omega)]
   exact ⟨h1,by omega,h3⟩
  ·have:j = k:=by omega
   subst this
   show 0 ≤ gt (S.lift ++ [l]) j ∧ gt (S.lift ++ [l]) j < (S.out ++ X).length ∧ (gt (S.out ++ X) (gt (S.lift ++ [l]) j).toNat).N = _
   have e2:gt (S.lift ++ [l]) j = l:=by have:=bT S.lift l;rwa [h.lift] at this
   rw [e2];exact hl
 ·by_cases e:j < k
  ·obtain ⟨h1,h2,h3,h4⟩:=h.kept j e hu
   show 0 ≤ gt (S.own ++ [o]) j ∧ gt (S.own ++ [o]) j < (S.out ++ X).length ∧ (gt (S.out ++ X) (gt (S.own ++ [o]) j).toNat).N = _ ∧ gt (usesB (S.out ++ X)) (gt (S.own ++ [o]) j).toNat = false
   rw [bK (show j < S.own.length by rw [h.own];exact e),bK (show (gt S.own j).toNat < S.out.length by omega),MP _ _ (show (gt S.own j).toNat < S.out.length by omega)]
   exact ⟨h1,by omega,h3,h4⟩
  ·have:j = k:=by omega
   subst this
   show 0 ≤ gt (S.own ++ [o]) j ∧ gt (S.own ++ [o]) j < (S.out ++ X).length ∧ (gt (S.out ++ X) (gt (S.own ++ [o]) j).toNat).N = _ ∧ gt (usesB (S.out ++ X)) (gt (S.own ++ [o]) j).toNat = false
   have e2:gt (S.own ++ [o]) j = o:=by have:=bT S.own o;rwa [h.own] at this
   rw [e2];exact ho hu
theorem RM {s:Nat} (hs:s ≤ 9) {H:List (List RN)} {out:List HL} {A C:Fm} {x:HL} (h:Dis4 s H out) (hx:isN x.N = true → goodH s H out out.length x = true) (hN:x.N = rawF C):
  Dis4 s H (out ++ ([x] ++ weakL (rawF A) x.N out.length)) ∧ (gt (out ++ ([x] ++ weakL (rawF A) x.N out.length)) (out.length + 2)).N = impN (rawF A) x.N ∧ gt (out ++ ([x] ++ weakL (rawF A) x.N out.length)) out.length = x ∧ (out ++ ([x] ++ weakL (rawF A) x.N out.length)).length = out.length + 3:=by
 have e:out ++ ([x] ++ weakL (rawF A) x.N out.length) = ((out ++ [x]) ++ [⟨1,0,0,impN x.N (impN (rawF A) x.N)⟩]) ++ [⟨3,(out.length:Int) + 1,out.length,impN (rawF A) x.N⟩]:=by simp [weakL]
 have l1:(out ++ [x]).length = out.length + 1:=by simp
 have l2:((out ++ [x]) ++ [⟨1,0,0,impN x.N (impN (rawF A) x.N)⟩]:List HL).length = out.length + 2:=by simp
 have g1:=h.push hx
 have g2:Dis4 s H ((out ++ [x]) ++ [⟨1,0,0,impN x.N (impN (rawF A) x.N)⟩]):=g1.push fun hn=>zE (k:=0) (g:=fun v=>if v = 0 then C else A) (sys01 hs).1 (by rw [hN];rfl) hn
 have a1:gt ((out ++ [x]) ++ [⟨1,0,0,impN x.N (impN (rawF A) x.N)⟩]) (out.length + 1) = (⟨1,0,0,impN x.N (impN (rawF A) x.N)⟩:HL):=by
  have:=bT (out ++ [x]) (⟨1,0,0,impN x.N (impN (rawF A) x.N)⟩:HL)
  rwa [l1] at this
 have a0:gt ((out ++ [x]) ++ [⟨1,0,0,impN x.N (impN (rawF A) x.N)⟩]) out.length = x:=by
  rw [bK (by omega),bT]
 rw [e]
 refine ⟨g2.push fun hn=>yW ⟨by omega,by omega⟩ ⟨by omega,by omega⟩ ?_ hn,?_,?_,by simp⟩
 ·rw [show ((out.length:Int) + 1).toNat = out.length + 1 by omega,Int.toNat_natCast,a1,a0]
 ·have:=bT ((out ++ [x]) ++ [⟨1,0,0,impN x.N (impN (rawF A) x.N)⟩]) (⟨3,(out.length:Int) + 1,out.length,impN (rawF A) x.N⟩:HL)
  rw [l2] at this
  rw [this]
 ·rw [bK (by omega),a0]
theorem dZ {s:Nat} {H:List (List RN)} {L:List HL} {k:Nat} {x:HL} (h:goodH s H L k x = true):isN x.N = true:=by
 unfold goodH at h
 rw [Bool.and_eq_true] at h;exact h.1
theorem YN {s:Nat} (hs:s ≤ 9) {H:List (List RN)} {out:List HL} {A C D:Fm} {i j:Int} (h:Dis4 s H out) (hi:0 ≤ i ∧ i < out.length ∧ (gt out i.toNat).N = impN (rawF A) (impN (rawF D) (rawF C))) (hj:0 ≤ j ∧ j < out.length ∧ (gt out j.toNat).N = impN (rawF A) (rawF D)):
  let X:List HL:=[⟨1,1,0,impN (impN (rawF A) (impN (rawF D) (rawF C))) (impN (impN (rawF A) (rawF D)) (impN (rawF A) (rawF C)))⟩,⟨3,out.length,i,impN (impN (rawF A) (rawF D)) (impN (rawF A) (rawF C))⟩,⟨3,(out.length:Int) + 1,j,impN (rawF A) (rawF C)⟩]
  Dis4 s H (out ++ X) ∧ (gt (out ++ X) (out.length + 2)).N = impN (rawF A) (rawF C) ∧ (out ++ X).length = out.length + 3:=by
 intro X
 have e:out ++ X = ((out ++ [⟨1,1,0,impN (impN (rawF A) (impN (rawF D) (rawF C))) (impN (impN (rawF A) (rawF D)) (impN (rawF A) (rawF C)))⟩]) ++ [⟨3,out.length,i,impN (impN (rawF A) (rawF D)) (impN (rawF A) (rawF C))⟩]) ++ [⟨3,(out.length:Int) + 1,j,impN (rawF A) (rawF C)⟩]:=by simp [X]
 have g1:Dis4 s H (out ++ [⟨1,1,0,impN (impN (rawF A) (impN (rawF D) (rawF C))) (impN (impN (rawF A) (rawF D)) (impN (rawF A) (rawF C)))⟩]):=h.push fun hn=>zE (k:=1) (g:=fun v=>if v = 0 then A else if v = 1 then D else C) (sys01 hs).2 rfl hn
 generalize hx1:(⟨1,1,0,impN (impN (rawF A) (impN (rawF D) (rawF C))) (impN (impN (rawF A) (rawF D)) (impN (rawF A) (rawF C)))⟩:HL) = x1 at *
 have n1:x1.N = impN (impN (rawF A) (impN (rawF D) (rawF C))) (impN (impN (rawF A) (rawF D)) (impN (rawF A) (rawF C))):=by rw [← hx1]
 have l1:(out ++ [x1]).length = out.length + 1:=by simp
 have g2:Dis4 s H ((out ++ [x1]) ++ [⟨3,out.length,i,impN (impN (rawF A) (rawF D)) (impN (rawF A) (rawF C))⟩]):=g1.push fun hn=>yW ⟨by omega,by omega⟩ ⟨by omega,by omega⟩ (by
  rw [Int.toNat_natCast,bT,bK (by omega),hi.2.2,n1]) hn
 generalize hx2:(⟨3,out.length,i,impN (impN (rawF A) (rawF D)) (impN (rawF A) (rawF C))⟩:HL) = x2 at *
 have n2:x2.N = impN (impN (rawF A) (rawF D)) (impN (rawF A) (rawF C)):=by rw [← hx2]
 have l2:((out ++ [x1]) ++ [x2]).length = out.length + 2:=by simp
 have a2:gt ((out ++ [x1]) ++ [x2]) (out.length + 1) = x2:=by
  have:=bT (out ++ [x1]) x2
  rwa [l1] at this
 rw [e]
 refine ⟨g2.push fun hn=>yW ⟨by omega,by omega⟩ ⟨by omega,by omega⟩ ?_ hn,?_,by simp⟩
 ·rw [show ((out.length:Int) + 1).toNat = out.length + 1 by omega,a2,bK (by omega),bK (by omega),hj.2.2,n2]
 ·have:=bT ((out ++ [x1]) ++ [x2]) (⟨3,(out.length:Int) + 1,j,impN (rawF A) (rawF C)⟩:HL)
  rw [l2] at this
  rw [this]
theorem W8 {s:Nat} (hs:s ≤ 9) {H:List (List RN)} {out:List HL} {A:Fm} (h:Dis4 s H out):
  let a:=rawF A
  let n:=(out.length:Int)
  let X:List HL:=[⟨1,0,0,impN a (impN (impN a a) a)⟩,⟨1,1,0,impN (impN a (impN (impN a a) a)) (impN (impN a (impN a a)) (impN a a))⟩,⟨3,n + 1,n,impN (impN a (impN a a)) (impN a a)⟩,⟨1,0,0,impN a (impN a a)⟩,⟨3,n + 2,n + 3,impN a a⟩]
  Dis4 s H (out ++ X) ∧ (gt (out ++ X) (out.length + 4)).N = impN a a ∧ (out ++ X).length = out.length + 5:=by
 intro a n X
 have key:∀ (x1 x2 x3 x4 x5:HL),x1 = ⟨1,0,0,impN a (impN (impN a a) a)⟩ → x2 = ⟨1,1,0,impN (impN a (impN (impN a a) a)) (impN (impN a (impN a a)) (impN a a))⟩ → x3 = ⟨3,n + 1,n,impN (impN a (impN a a)) (impN a a)⟩ → x4 = ⟨1,0,0,impN a (impN a a)⟩ → x5 = ⟨3,n + 2,n + 3,impN a a⟩ →
   Dis4 s H (out ++ [x1,x2,x3,x4,x5]) ∧ (gt (out ++ [x1,x2,x3,x4,x5]) (out.length + 4)).N = impN a a:=by
  intro x1 x2 x3 x4 x5 h1 h2 h3 h4 h5
  have l1:(out ++ [x1]).length = out.length + 1:=by simp
  have l2:((out ++ [x1]) ++ [x2]).length = out.length + 2:=by simp
  have l3:(((out ++ [x1]) ++ [x2]) ++ [x3]).length = out.length + 3:=by simp
  have l4:((((out ++ [x1]) ++ [x2]) ++ [x3]) ++ [x4]).length = out.length + 4:=by simp
  have g1:Dis4 s H (out ++ [x1]):=h.push fun hn=>by subst h1;exact zE (k:=0) (g:=fun v=>if v = 0 then A else .imp A A) (sys01 hs).1 rfl hn
  have g2:Dis4 s H ((out ++ [x1]) ++ [x2]):=g1.push fun hn=>by subst h2;exact zE (k:=1) (g:=fun v=>if v = 1 then .imp A A else A) (sys01 hs).2 rfl hn
  have b1:gt ((out ++ [x1]) ++ [x2]) out.length = x1:=by rw [bK (by omega),bT]
  have b2:gt ((out ++ [x1]) ++ [x2]) (out.length + 1) = x2:=by have:=bT (out ++ [x1]) x2;rwa [l1] at this
  have g3:Dis4 s H (((out ++ [x1]) ++ [x2]) ++ [x3]):=g2.push fun hn=>by
   subst h3
   refine yW ⟨by omega,by omega⟩ ⟨by omega,by omega⟩ ?_ hn
   rw [show (n + 1).toNat = out.length + 1 by omega,show n.toNat = out.length from Int.toNat_natCast _,b1,b2,h1,h2]
  have g4:Dis4 s H ((((out ++ [x1]) ++ [x2]) ++ [x3]) ++ [x4]):=g3.push fun hn=>by subst h4;exact zE (k:=0) (g:=fun v=>A) (sys01 hs).1 rfl hn
  have b3:gt ((((out ++ [x1]) ++ [x2]) ++ [x3]) ++ [x4]) (out.length + 2) = x3:=by
   rw [bK (by omega)]
   have:=bT ((out ++ [x1]) ++ [x2]) x3;rwa [l2] at this
  have b4:gt ((((out ++ [x1]) ++ [x2]) ++ [x3]) ++ [x4]) (out.length + 3) = x4:=by
   have:=bT (((out ++ [x1]) ++ [x2]) ++ [x3]) x4;rwa [l3] at this
  have e:out ++ [x1,x2,x3,x4,x5] = ((((out ++ [x1]) ++ [x2]) ++ [x3]) ++ [x4]) ++ [x5]:=by simp
  rw [e]
  refine ⟨g4.push fun hn=>?_,?_⟩
  ·subst h5
   refine yW ⟨by omega,by omega⟩ ⟨by omega,by omega⟩ ?_ hn
   rw [show (n + 2).toNat = out.length + 2 by omega,show (n + 3).toNat = out.length + 3 by omega,b3,b4,h3,h4]
  ·have:=bT ((((out ++ [x1]) ++ [x2]) ++ [x3]) ++ [x4]) x5
   rw [l4] at this
   rw [this,h5]
 obtain ⟨k1,k2⟩:=key _ _ _ _ _ rfl rfl rfl rfl rfl
 exact ⟨k1,k2,by simp [X]⟩
end Go.Vc

namespace Go.Vc
theorem yL {s:Nat} {H:List (List RN)} {L:List HL} {k:Nat} {x:HL} (h:goodH s H L k x = true):x.rule = 1 ∨ x.rule = 2 ∨ x.rule = 3 ∨ x.rule = 4:=by
 unfold goodH at h
 rw [Bool.and_eq_true] at h
 have h:=h.2
 split at h
 ·rename_i e;exact .inl e
 split at h
 ·rename_i e;exact .inr (.inl e)
 split at h
 ·rename_i e;exact .inr (.inr (.inl e))
 split at h
 ·rename_i e;exact .inr (.inr (.inr e))
 ·cases h
theorem WZ {s:Nat} {H H':List (List RN)} {L L':List HL} {k k':Nat} {x:HL} (h:goodH s H L k x = true) (e:x.rule = 1):goodH s H' L' k' x = true:=by
 unfold goodH at h ⊢
 rw [if_pos e] at h ⊢
 exact h
theorem wC {s:Nat} {H:List (List RN)} {L:List HL} {k:Nat} {x:HL} (h:goodH s H L k x = true) (e:x.rule = 2):x.second = 0 ∧ (0 ≤ x.first ∧ x.first ≤ (H.length:Int) - 1) ∧ gt H x.first.toNat = x.N:=by
 unfold goodH at h
 rw [if_neg (by omega),if_pos e] at h
 simp only [Bool.and_eq_true,decide_eq_true_eq] at h
 exact h.2
theorem lK {s:Nat} {H:List (List RN)} {L:List HL} {k:Nat} {x:HL} (h:goodH s H L k x = true) (e:x.rule = 3):(0 ≤ x.first ∧ x.first ≤ (k:Int) - 1) ∧ (0 ≤ x.second ∧ x.second ≤ (k:Int) - 1) ∧ (gt L x.first.toNat).N = impN (gt L x.second.toNat).N x.N:=by
 unfold goodH at h
 rw [if_neg (by omega),if_neg (by omega),if_pos e] at h
 simp only [Bool.and_eq_true,decide_eq_true_eq] at h
 exact h.2
theorem kF {s:Nat} {H:List (List RN)} {L:List HL} {k:Nat} {x:HL} (h:goodH s H L k x = true) (e:x.rule = 4):2 ≤ s ∧ x.second = 0 ∧ (0 ≤ x.first ∧ x.first ≤ (k:Int) - 1) ∧ gt (usesB (L.take k)) x.first.toNat = false ∧ x.N = (5,0) :: (gt L x.first.toNat).N:=by
 unfold goodH at h
 rw [if_neg (by omega),if_neg (by omega),if_neg (by omega),if_pos e] at h
 simp only [Bool.and_eq_true,decide_eq_true_eq,Bool.not_eq_true'] at h
 exact h.2
theorem UZ {s:Nat} (hs:s ≤ 9) {H:List (List RN)} {L:List HL} (hall:∀ k,k < L.length → goodH s H L k (gt L k) = true) (hH:0 < H.length) {A:Fm} (ha:gt H (H.length - 1) = rawF A):
  ∀ k,k ≤ L.length → DisI s (H.take (H.length - 1)) (rawF A) L k (disK (rawF A) ((H.length:Int) - 1) L k) ∧ (0 < k → gt (disK (rawF A) ((H.length:Int) - 1) L k).lift (k - 1) = ((disK (rawF A) ((H.length:Int) - 1) L k).out.length:Int) - 1)
 | 0,_=>⟨⟨rfl,rfl,fun i hi=>absurd hi (Nat.not_lt_zero i),fun j hj=>absurd hj (Nat.not_lt_zero j),fun j hj=>absurd hj (Nat.not_lt_zero j)⟩,fun h=>absurd h (Nat.lt_irrefl 0)⟩
 | k + 1,hk=>by
  obtain ⟨ih,-⟩:=UZ hs hall hH ha k (by omega)
  rw [disK]
  generalize disK (rawF A) ((H.length:Int) - 1) L k = S at ih ⊢
  have hx:=hall k (by omega)
  obtain ⟨C,-,-,hC⟩:=dI (dZ hx)
  have hu:=yT (L:=L) (k:=k) (by omega)
  have lastL:∀ {l:Int},gt (S.lift ++ [l]) (k + 1 - 1) = l:=fun {l}=>by
   have:=bT S.lift l
   rw [ih.lift] at this
   exact this
  unfold cN
  by_cases h0:gt (usesB L) k = false
  ·rw [if_pos h0]
   rw [hu] at h0
   -- the line that stays
   have hmv:(mvH (gt L k) S.own).N = (gt L k).N ∧ (isN (gt L k).N = true → goodH s (H.take (H.length - 1)) S.out S.out.length (mvH (gt L k) S.own) = true) ∧ bE (usesB S.out) (mvH (gt L k) S.own) = false:=by
    rcases yL hx with e | e | e | e
    ·have em:mvH (gt L k) S.own = gt L k:=by unfold mvH;rw [if_neg (by omega),if_neg (by omega)]
     rw [em]
     refine ⟨rfl,fun _=>WZ hx e,?_⟩
     unfold bE
     rw [if_neg (by omega),if_neg (by omega),if_neg (by omega)]
    ·unfold bE at h0
     rw [if_pos e] at h0;cases h0
    ·obtain ⟨r1,r2,r3⟩:=lK hx e
     unfold bE at h0
     rw [if_neg (by omega),if_pos e,Bool.or_eq_false_iff,kB (by omega) (by omega),kB (by omega) (by omega)] at h0
     obtain ⟨a1,a2,a3,a4⟩:=ih.kept (gt L k).first.toNat (by omega) h0.1
     obtain ⟨b1,b2,b3,b4⟩:=ih.kept (gt L k).second.toNat (by omega) h0.2
     have em:mvH (gt L k) S.own = ⟨3,gt S.own (gt L k).first.toNat,gt S.own (gt L k).second.toNat,(gt L k).N⟩:=by unfold mvH;rw [if_pos e,e]
     rw [em]
     refine ⟨rfl,fun hn=>yW ⟨a1,a2⟩ ⟨b1,b2⟩ (by rw [a3,b3,r3]) hn,?_⟩
     unfold bE
     rw [if_neg (show ¬ (3:Int) = 2 by decide),if_pos rfl,a4,b4];rfl
    ·obtain ⟨r1,r2,r3,r4,r5⟩:=kF hx e
     rw [kB (by omega) (by omega)] at r4
     obtain ⟨a1,a2,a3,a4⟩:=ih.kept (gt L k).first.toNat (by omega) r4
     have em:mvH (gt L k) S.own = ⟨4,gt S.own (gt L k).first.toNat,0,(gt L k).N⟩:=by unfold mvH;rw [if_neg (by omega),if_pos e,e,r2]
     rw [em]
     refine ⟨rfl,fun hn=>?_,?_⟩
     ·unfold goodH
      rw [hn,Bool.true_and,if_neg (show ¬ (4:Int) = 1 by decide),if_neg (show ¬ (4:Int) = 2 by decide),if_neg (show ¬ (4:Int) = 3 by decide),if_pos rfl]
      simp only [Bool.and_eq_true,decide_eq_true_eq,Bool.not_eq_true',List.take_length]
      exact ⟨r1,trivial,by omega,a4,by rw [a3];exact r5⟩
     ·unfold bE
      rw [if_neg (show ¬ (4:Int) = 2 by decide),if_neg (show ¬ (4:Int) = 3 by decide),if_pos rfl,a4]
   obtain ⟨m1,m2,m3⟩:=hmv
   obtain ⟨g1,g2,g3,g4⟩:=RM (A:=A) hs ih.good (x:=mvH (gt L k) S.own) (by rw [m1];exact m2) (m1.trans hC)
   rw [m1] at g1 g2 g3 g4
   refine ⟨ih.next g1 ⟨by omega,by rw [g4];omega,by rw [show ((S.out.length:Int) + 2).toNat = S.out.length + 2 by omega];exact g2⟩ fun _=>⟨by omega,by rw [g4];omega,by rw [Int.toNat_natCast,g3,m1],?_⟩,fun _=>?_⟩
   ·rw [Int.toNat_natCast,show S.out ++ ([mvH (gt L k) S.own] ++ weakL (rawF A) (gt L k).N S.out.length) = (S.out ++ [mvH (gt L k) S.own]) ++ weakL (rawF A) (gt L k).N S.out.length by simp,MP _ _ (by simp),Q9]
    exact m3
   ·show gt (S.lift ++ [(S.out.length:Int) + 2]) (k + 1 - 1) = _
    rw [lastL,g4];omega
  ·rw [if_neg h0]
   by_cases h2:(gt L k).rule = 2
   ·obtain ⟨r1,r2,r3⟩:=wC hx h2
    by_cases hl:(gt L k).first = (H.length:Int) - 1
    ·rw [if_pos ⟨h2,hl⟩]
     have hCA:(gt L k).N = rawF A:=by rw [← r3,hl,show ((H.length:Int) - 1).toNat = H.length - 1 by omega];exact ha
     obtain ⟨g1,g2,g3⟩:=W8 (A:=A) hs ih.good
     refine ⟨ih.next g1 ⟨by omega,by rw [g3];omega,by rw [show ((S.out.length:Int) + 4).toNat = S.out.length + 4 by omega,g2,hCA]⟩ fun h=>absurd h h0,fun _=>?_⟩
     show gt (S.lift ++ [(S.out.length:Int) + 4]) (k + 1 - 1) = _
     rw [lastL,g3];omega
    ·rw [if_neg (fun h=>hl h.2),if_pos h2]
     have hgood:isN (gt L k).N = true → goodH s (H.take (H.length - 1)) S.out S.out.length ⟨2,(gt L k).first,0,(gt L k).N⟩ = true:=fun hn=>by
      unfold goodH
      rw [hn,Bool.true_and,if_neg (show ¬ (2:Int) = 1 by decide),if_pos rfl]
      simp only [Bool.and_eq_true,decide_eq_true_eq,List.length_take]
      refine ⟨trivial,by omega,?_⟩
      rw [gt_eq (by rw [List.length_take];omega),List.getElem_take,← gt_eq (by omega)]
      exact r3
     obtain ⟨g1,g2,g3,g4⟩:=RM (A:=A) hs ih.good (x:=⟨2,(gt L k).first,0,(gt L k).N⟩) hgood hC
     refine ⟨ih.next g1 ⟨by omega,by rw [g4];omega,by rw [show ((S.out.length:Int) + 2).toNat = S.out.length + 2 by omega];exact g2⟩ fun h=>absurd h h0,fun _=>?_⟩
     show gt (S.lift ++ [(S.out.length:Int) + 2]) (k + 1 - 1) = _
     rw [lastL]
     have:(S.out ++ ([(⟨2,(gt L k).first,0,(gt L k).N⟩:HL)] ++ weakL (rawF A) (gt L k).N S.out.length)).length = S.out.length + 3:=g4
     rw [this];omega
   ·rw [if_neg (fun h=>h2 h.1),if_neg h2]
    have h3:(gt L k).rule = 3:=by
     rcases yL hx with e | e | e | e
     ·exfalso
      apply h0
      rw [hu]
      unfold bE
      rw [if_neg (by omega),if_neg (by omega),if_neg (by omega)]
     ·exact absurd e h2
     ·exact e
     ·exfalso
      apply h0
      rw [hu]
      obtain ⟨-,-,-,r4,-⟩:=kF hx e
      unfold bE
      rw [if_neg (by omega),if_neg (by omega),if_pos e,r4]
    obtain ⟨r1,r2,r3⟩:=lK hx h3
    obtain ⟨D,-,-,hD⟩:=dI (dZ (hall (gt L k).second.toNat (by omega)))
    obtain ⟨a1,a2,a3⟩:=ih.imp (gt L k).first.toNat (by omega)
    obtain ⟨b1,b2,b3⟩:=ih.imp (gt L k).second.toNat (by omega)
    rw [r3,hD,hC] at a3
    rw [hD] at b3
    obtain ⟨g1,g2,g3⟩:=YN hs ih.good ⟨a1,a2,a3⟩ ⟨b1,b2,b3⟩
    rw [hD,hC]
    refine ⟨ih.next g1 ⟨by omega,by rw [g3];omega,by rw [show ((S.out.length:Int) + 2).toNat = S.out.length + 2 by omega,g2,hC]⟩ fun h=>absurd h h0,fun _=>?_⟩
    show gt (S.lift ++ [(S.out.length:Int) + 2]) (k + 1 - 1) = _
    rw [lastL,g3];omega
theorem YE {s:Nat} (hs:s ≤ 9) {H:List (List RN)} {L:List HL} (hall:∀ k,k < L.length → goodH s H L k (gt L k) = true) (hL:0 < L.length) (hH:0 < H.length) {A:Fm} (ha:gt H (H.length - 1) = rawF A):
  let O:=(disK (rawF A) ((H.length:Int) - 1) L L.length).out
  (∀ i,i < O.length → isN (gt O i).N = true → goodH s (H.take (H.length - 1)) O i (gt O i) = true) ∧ 0 < O.length ∧ (gt O (O.length - 1)).N = impN (rawF A) (gt L (L.length - 1)).N:=by
 intro O
 obtain ⟨h1,h2⟩:=UZ hs hall hH ha L.length (Nat.le_refl _)
 obtain ⟨a1,a2,a3⟩:=h1.imp (L.length - 1) (by omega)
 have h2:=h2 hL
 rw [h2] at a1 a2 a3
 refine ⟨h1.good,by show 0 < (disK (rawF A) ((H.length:Int) - 1) L L.length).out.length;omega,?_⟩
 show (gt (disK (rawF A) ((H.length:Int) - 1) L L.length).out ((disK (rawF A) ((H.length:Int) - 1) L L.length).out.length - 1)).N = _
 rw [← a3]
 congr 2
 omega
end Go.Vc

namespace Go.Vc
theorem fl0:fl 0 = 4:=rfl
theorem fl1:fl 1 = 3:=rfl
theorem fl2:fl 2 = 2:=rfl
theorem fl3:fl 3 = 1:=rfl
theorem I1:∀ v,v < 6 → (vl v).toNat = 112 + v
 | 0,_=>rfl
 | 1,_=>rfl
 | 2,_=>rfl
 | 3,_=>rfl
 | 4,_=>rfl
 | 5,_=>rfl
 | v + 6,h=>by omega
theorem WQ {v u:Nat} (hv:v < 6) (hu:u < 6) (h:vl v = vl u):v = u:=by
 have:=congrArg UInt8.toNat h
 rw [I1 v hv,I1 u hu] at this;omega
theorem fK {v:Nat} (hv:v < 6) {d:UInt8} (h:d.toNat < 112 ∨ 117 < d.toNat):vl v ≠ d:=by
 rintro rfl
 rw [I1 v hv] at h;omega
abbrev ReadQ (e:TypeId) (b:Nat) (t:Str) (nodeT:TypeId) (r:Fm × RSt) (w:World) (v:Value) (w':World):Prop:=RdS e b t r.2 w' ∧ Ch (fun x=>x = b) w w' ∧ OwK 2 w.heap.size nodeT w' v r.1.size r.1.cells
theorem iI {e:TypeId} {b:Nat} {t:Str} {s:RSt} {w w1:World} {lo:Nat} {e':TypeId} {v:Value} {n:Nat} {xs:List Value} (h:RdS e b t s w) (ho:OwK 2 lo e' w1 v n xs) (hlo:w.heap.size ≤ lo):∀ c,v.ownBlock = some c → ¬ c = b:=fun c hc hb=>by
 have:=(ho.blk c hc).1;have:=h.lt;omega
end Go.Vc
namespace Go.Proofs.YtbfpohbmgjcjmaaGreatDoor
open Go.Vc
def Rds (f:FuncId) (lv m:Nat):Prop:=∀ (e:TypeId) (b:Nat) (t:Str) (s:RSt) (w:World),t.length ≤ 4194304 → RdS e b t s w → 8 * s.1.length + fl lv ≤ m → Cal Tryz.prog f #[.pointer (some ⟨b,0,none⟩)] w (ReadQ e b t aA (rdL lv .fls s) w)
theorem FP {m:Nat} (hor:Rds kD 1 m) (him:Rds b7 0 m):Rds b7 0 (m + 1):=by
 intro e b t s w ht h hm
 rw [fl0] at hm
 apply H5;unfold sU
 refine iCall ((hor e b t s w ht h (by rw [fl1];omega)).mono ?_)
 rintro v w1 ⟨h1,hc1,ho1⟩
 have hlen:=jZ 1 .fls s
 have hz:=b9 1 .fls s
 have htl:=h.len
 rw [rdL0]
 refine iCall ((aV 62 (by decide) (by omega) h1).mono ?_)
 rintro _ w2 ⟨rfl,h2,hc2⟩
 have ho2:=ho1.ch hc2 (iI h ho1 (Nat.le_refl _))
 cases hk:tk 62 (rdL 1 .fls s).2
 ·rw [hk,if_neg (by decide)] at h2
  exact iCndF rfl ⟨h2,aE hc1 hc2,ho2⟩
 ·rw [hk,if_pos rfl] at h2
  have hnx:=a8 hk
  rw [if_pos rfl]
  refine iCndT rfl ?_
  refine iCall ((him e b t _ w2 ht h2 (by rw [fl0];omega)).mono ?_)
  rintro v3 w3 ⟨h3,hc3,ho3⟩
  have hz3:=b9 0 .fls (nx (rdL 1 .fls s).2)
  have hf:Fm.fls.size = 1:=rfl
  have ho23:=ho2.ch hc3 (iI h ho2 (Nat.le_refl _))
  have hsz:(Fm.imp (rdL 1 .fls s).1 (rdL 0 .fls (nx (rdL 1 .fls s).2)).1).size ≤ 1099511627776:=by
   show 1 + _ + _ ≤ _;omega
  refine iCall ((dP (c:=.imp (rdL 1 .fls s).1 (rdL 0 .fls (nx (rdL 1 .fls s).2)).1) (k:=4) rfl rfl ho23.sl ho3.sl hsz).mono ?_)
  rintro v4 w4 ⟨h4,ho4⟩
  have hcc:=aE hc1 (aE hc2 hc3)
  exact ⟨h3.ext h4,aT hcc h4,ho4.mono hcc.size⟩
theorem MW {m:Nat} (hor:Rds rE 1 m) (him:Rds fH 0 m):Rds fH 0 (m + 1):=by
 intro e b t s w ht h hm
 rw [fl0] at hm
 apply OO;unfold A3
 refine iCall ((hor e b t s w ht h (by rw [fl1];omega)).mono ?_)
 rintro v w1 ⟨h1,hc1,ho1⟩
 have hlen:=jZ 1 .fls s
 have hz:=b9 1 .fls s
 have htl:=h.len
 rw [rdL0]
 refine iCall ((bH 62 (by decide) (by omega) h1).mono ?_)
 rintro _ w2 ⟨rfl,h2,hc2⟩
 have ho2:=ho1.ch hc2 (iI h ho1 (Nat.le_refl _))
 cases hk:tk 62 (rdL 1 .fls s).2
 ·rw [hk,if_neg (by decide)] at h2
  exact iCndF rfl ⟨h2,aE hc1 hc2,ho2⟩
 ·rw [hk,if_pos rfl] at h2
  have hnx:=a8 hk
  rw [if_pos rfl]
  refine iCndT rfl ?_
  refine iCall ((him e b t _ w2 ht h2 (by rw [fl0];omega)).mono ?_)
  rintro v3 w3 ⟨h3,hc3,ho3⟩
  have hz3:=b9 0 .fls (nx (rdL 1 .fls s).2)
  have hf:Fm.fls.size = 1:=rfl
  have ho23:=ho2.ch hc3 (iI h ho2 (Nat.le_refl _))
  have hsz:(Fm.imp (rdL 1 .fls s).1 (rdL 0 .fls (nx (rdL 1 .fls s).2)).1).size ≤ 1099511627776:=by
   show 1 + _ + _ ≤ _;omega
  refine iCall ((cK (c:=.imp (rdL 1 .fls s).1 (rdL 0 .fls (nx (rdL 1 .fls s).2)).1) (k:=4) rfl rfl ho23.sl ho3.sl hsz).mono ?_)
  rintro v4 w4 ⟨h4,ho4⟩
  have hcc:=aE hc1 (aE hc2 hc3)
  exact ⟨h3.ext h4,aT hcc h4,ho4.mono hcc.size⟩
theorem K0 {m:Nat} (hsub:Rds jH 2 m):Rds kD 1 (m + 1):=by
 intro e b t s w ht h hm
 rw [fl1] at hm
 apply MG;unfold y7
 refine iCall ((hsub e b t s w ht h (by rw [fl2];omega)).mono ?_)
 rintro v w1 ⟨h1,hc1,ho1⟩
 have hlen:=jZ 2 .fls s
 have hz:=b9 2 .fls s
 have htl:=h.len
 have hf:Fm.fls.size = 1:=rfl
 rw [rdL1]
 refine iLp (fun q:Value × Fm × RSt=>[q.1]) (fun q w'=>RdS e b t q.2.2 w' ∧ Ch (fun x=>x = b) w w' ∧ OwK 2 w.heap.size aA w' q.1 q.2.1.size q.2.1.cells ∧ rdL 4 q.2.1 q.2.2 = rdL 4 (rdL 2 .fls s).1 (rdL 2 .fls s).2 ∧ q.2.2.1.length ≤ s.1.length ∧ q.2.1.size + 3 * q.2.2.1.length ≤ 1 + 3 * s.1.length) (fun q=>q.2.2.1.length) (v,rdL 2 .fls s) rfl
  ⟨h1,hc1,ho1,rfl,hlen,by show (rdL 2 .fls s).1.size + 3 * (rdL 2 .fls s).2.1.length ≤ _;omega⟩ ?_
 rintro ⟨v,a,q⟩ w3 Kn ⟨h3,hc3,ho3,hq,hql,hqs⟩ hKn
 have h3:RdS e b t q w3:=h3
 have ho3:OwK 2 w.heap.size aA w3 v a.size a.cells:=ho3
 have hq:rdL 4 a q = _:=hq
 have hql:q.1.length ≤ s.1.length:=hql
 have hqs:a.size + 3 * q.1.length ≤ 1 + 3 * s.1.length:=hqs
 intro _
 refine iCall ((aV 124 (by decide) (by omega) h3).mono ?_)
 rintro _ w4 ⟨rfl,h4,hc4⟩
 have ho4:=ho3.ch hc4 (iI h ho3 (Nat.le_refl _))
 rw [← hq,rdL4]
 cases hk:tk 124 q
 ·rw [hk,if_neg (by decide)] at h4
  rw [if_neg (by decide)]
  exact iCndF rfl ⟨h4,aE hc3 hc4,ho4⟩
 ·rw [hk,if_pos rfl] at h4
  have hnx:=a8 hk
  rw [if_pos rfl]
  refine iCndT rfl ?_
  refine iCall ((hsub e b t _ w4 ht h4 (by rw [fl2];omega)).mono ?_)
  rintro v5 w5 ⟨h5,hc5,ho5⟩
  have hz5:=b9 2 .fls (nx q)
  have hl5:=jZ 2 .fls (nx q)
  have ho45:=ho4.ch hc5 (iI h ho4 (Nat.le_refl _))
  have hsz:(Fm.or a (rdL 2 .fls (nx q)).1).size ≤ 1099511627776:=by
   show 1 + _ + _ ≤ _;omega
  refine iCall ((dP (c:=.or a (rdL 2 .fls (nx q)).1) (k:=3) rfl rfl ho45.sl ho5.sl hsz).mono ?_)
  rintro v6 w6 ⟨h6,ho6⟩
  have hcc:=aE hc3 (aE hc4 hc5)
  have e1:rdL 4 (rdL 2 .fls s).1 (rdL 2 .fls s).2 = rdL 4 (.or a (rdL 2 .fls (nx q)).1) (rdL 2 .fls (nx q)).2:=by rw [← hq,rdL4,if_pos hk]
  refine hKn (v6,.or a (rdL 2 .fls (nx q)).1,(rdL 2 .fls (nx q)).2) _ ⟨h5.ext h6,aT hcc h6,ho6.mono hcc.size,e1.symm,by show (rdL 2 .fls (nx q)).2.1.length ≤ _;omega,?_⟩ (by show (rdL 2 .fls (nx q)).2.1.length < q.1.length;omega)
  show 1 + a.size + (rdL 2 .fls (nx q)).1.size + 3 * (rdL 2 .fls (nx q)).2.1.length ≤ _
  omega
theorem I7 {m:Nat} (hsub:Rds dU 3 m):Rds jH 2 (m + 1):=by
 intro e b t s w ht h hm
 rw [fl2] at hm
 apply KZ;unfold yG
 refine iCall ((hsub e b t s w ht h (by rw [fl3];omega)).mono ?_)
 rintro v w1 ⟨h1,hc1,ho1⟩
 have hlen:=jZ 3 .fls s
 have hz:=b9 3 .fls s
 have htl:=h.len
 have hf:Fm.fls.size = 1:=rfl
 rw [rdL2]
 refine iLp (fun q:Value × Fm × RSt=>[q.1]) (fun q w'=>RdS e b t q.2.2 w' ∧ Ch (fun x=>x = b) w w' ∧ OwK 2 w.heap.size aA w' q.1 q.2.1.size q.2.1.cells ∧ rdL 5 q.2.1 q.2.2 = rdL 5 (rdL 3 .fls s).1 (rdL 3 .fls s).2 ∧ q.2.2.1.length ≤ s.1.length ∧ q.2.1.size + 3 * q.2.2.1.length ≤ 1 + 3 * s.1.length) (fun q=>q.2.2.1.length) (v,rdL 3 .fls s) rfl
  ⟨h1,hc1,ho1,rfl,hlen,by show (rdL 3 .fls s).1.size + 3 * (rdL 3 .fls s).2.1.length ≤ _;omega⟩ ?_
 rintro ⟨v,a,q⟩ w3 Kn ⟨h3,hc3,ho3,hq,hql,hqs⟩ hKn
 have h3:RdS e b t q w3:=h3
 have ho3:OwK 2 w.heap.size aA w3 v a.size a.cells:=ho3
 have hq:rdL 5 a q = _:=hq
 have hql:q.1.length ≤ s.1.length:=hql
 have hqs:a.size + 3 * q.1.length ≤ 1 + 3 * s.1.length:=hqs
 intro _
 refine iCall ((aV 38 (by decide) (by omega) h3).mono ?_)
 rintro _ w4 ⟨rfl,h4,hc4⟩
 have ho4:=ho3.ch hc4 (iI h ho3 (Nat.le_refl _))
 rw [← hq,rdL5]
 cases hk:tk 38 q
 ·rw [hk,if_neg (by decide)] at h4
  rw [if_neg (by decide)]
  exact iCndF rfl ⟨h4,aE hc3 hc4,ho4⟩
 ·rw [hk,if_pos rfl] at h4
  have hnx:=a8 hk
  rw [if_pos rfl]
  refine iCndT rfl ?_
  refine iCall ((hsub e b t _ w4 ht h4 (by rw [fl3];omega)).mono ?_)
  rintro v5 w5 ⟨h5,hc5,ho5⟩
  have hz5:=b9 3 .fls (nx q)
  have hl5:=jZ 3 .fls (nx q)
  have ho45:=ho4.ch hc5 (iI h ho4 (Nat.le_refl _))
  have hsz:(Fm.and a (rdL 3 .fls (nx q)).1).size ≤ 1099511627776:=by
   show 1 + _ + _ ≤ _;omega
  refine iCall ((dP (c:=.and a (rdL 3 .fls (nx q)).1) (k:=2) rfl rfl ho45.sl ho5.sl hsz).mono ?_)
  rintro v6 w6 ⟨h6,ho6⟩
  have hcc:=aE hc3 (aE hc4 hc5)
  have e1:rdL 5 (rdL 3 .fls s).1 (rdL 3 .fls s).2 = rdL 5 (.and a (rdL 3 .fls (nx q)).1) (rdL 3 .fls (nx q)).2:=by rw [← hq,rdL5,if_pos hk]
  refine hKn (v6,.and a (rdL 3 .fls (nx q)).1,(rdL 3 .fls (nx q)).2) _ ⟨h5.ext h6,aT hcc h6,ho6.mono hcc.size,e1.symm,by show (rdL 3 .fls (nx q)).2.1.length ≤ _;omega,?_⟩ (by show (rdL 3 .fls (nx q)).2.1.length < q.1.length;omega)
  show 1 + a.size + (rdL 3 .fls (nx q)).1.size + 3 * (rdL 3 .fls (nx q)).2.1.length ≤ _
  omega
theorem R5 {m:Nat} (hsub:Rds pK 2 m):Rds rE 1 (m + 1):=by
 intro e b t s w ht h hm
 rw [fl1] at hm
 apply S5;unfold IL
 refine iCall ((hsub e b t s w ht h (by rw [fl2];omega)).mono ?_)
 rintro v w1 ⟨h1,hc1,ho1⟩
 have hlen:=jZ 2 .fls s
 have hz:=b9 2 .fls s
 have htl:=h.len
 have hf:Fm.fls.size = 1:=rfl
 rw [rdL1]
 refine iLp (fun q:Value × Fm × RSt=>[q.1]) (fun q w'=>RdS e b t q.2.2 w' ∧ Ch (fun x=>x = b) w w' ∧ OwK 2 w.heap.size aA w' q.1 q.2.1.size q.2.1.cells ∧ rdL 4 q.2.1 q.2.2 = rdL 4 (rdL 2 .fls s).1 (rdL 2 .fls s).2 ∧ q.2.2.1.length ≤ s.1.length ∧ q.2.1.size + 3 * q.2.2.1.length ≤ 1 + 3 * s.1.length) (fun q=>q.2.2.1.length) (v,rdL 2 .fls s) rfl
  ⟨h1,hc1,ho1,rfl,hlen,by show (rdL 2 .fls s).1.size + 3 * (rdL 2 .fls s).2.1.length ≤ _;omega⟩ ?_
 rintro ⟨v,a,q⟩ w3 Kn ⟨h3,hc3,ho3,hq,hql,hqs⟩ hKn
 have h3:RdS e b t q w3:=h3
 have ho3:OwK 2 w.heap.size aA w3 v a.size a.cells:=ho3
 have hq:rdL 4 a q = _:=hq
 have hql:q.1.length ≤ s.1.length:=hql
 have hqs:a.size + 3 * q.1.length ≤ 1 + 3 * s.1.length:=hqs
 intro _
 refine iCall ((bH 124 (by decide) (by omega) h3).mono ?_)
 rintro _ w4 ⟨rfl,h4,hc4⟩
 have ho4:=ho3.ch hc4 (iI h ho3 (Nat.le_refl _))
 rw [← hq,rdL4]
 cases hk:tk 124 q
 ·rw [hk,if_neg (by decide)] at h4
  rw [if_neg (by decide)]
  exact iCndF rfl ⟨h4,aE hc3 hc4,ho4⟩
 ·rw [hk,if_pos rfl] at h4
  have hnx:=a8 hk
  rw [if_pos rfl]
  refine iCndT rfl ?_
  refine iCall ((hsub e b t _ w4 ht h4 (by rw [fl2];omega)).mono ?_)
  rintro v5 w5 ⟨h5,hc5,ho5⟩
  have hz5:=b9 2 .fls (nx q)
  have hl5:=jZ 2 .fls (nx q)
  have ho45:=ho4.ch hc5 (iI h ho4 (Nat.le_refl _))
  have hsz:(Fm.or a (rdL 2 .fls (nx q)).1).size ≤ 1099511627776:=by
   show 1 + _ + _ ≤ _;omega
  refine iCall ((cK (c:=.or a (rdL 2 .fls (nx q)).1) (k:=3) rfl rfl ho45.sl ho5.sl hsz).mono ?_)
  rintro v6 w6 ⟨h6,ho6⟩
  have hcc:=aE hc3 (aE hc4 hc5)
  have e1:rdL 4 (rdL 2 .fls s).1 (rdL 2 .fls s).2 = rdL 4 (.or a (rdL 2 .fls (nx q)).1) (rdL 2 .fls (nx q)).2:=by rw [← hq,rdL4,if_pos hk]
  refine hKn (v6,.or a (rdL 2 .fls (nx q)).1,(rdL 2 .fls (nx q)).2) _ ⟨h5.ext h6,aT hcc h6,ho6.mono hcc.size,e1.symm,by show (rdL 2 .fls (nx q)).2.1.length ≤ _;omega,?_⟩ (by show (rdL 2 .fls (nx q)).2.1.length < q.1.length;omega)
  show 1 + a.size + (rdL 2 .fls (nx q)).1.size + 3 * (rdL 2 .fls (nx q)).2.1.length ≤ _
  omega
theorem QI {m:Nat} (hsub:Rds gO 3 m):Rds pK 2 (m + 1):=by
 intro e b t s w ht h hm
 rw [fl2] at hm
 apply RT;unfold GP
 refine iCall ((hsub e b t s w ht h (by rw [fl3];omega)).mono ?_)
 rintro v w1 ⟨h1,hc1,ho1⟩
 have hlen:=jZ 3 .fls s
 have hz:=b9 3 .fls s
 have htl:=h.len
 have hf:Fm.fls.size = 1:=rfl
 rw [rdL2]
 refine iLp (fun q:Value × Fm × RSt=>[q.1]) (fun q w'=>RdS e b t q.2.2 w' ∧ Ch (fun x=>x = b) w w' ∧ OwK 2 w.heap.size aA w' q.1 q.2.1.size q.2.1.cells ∧ rdL 5 q.2.1 q.2.2 = rdL 5 (rdL 3 .fls s).1 (rdL 3 .fls s).2 ∧ q.2.2.1.length ≤ s.1.length ∧ q.2.1.size + 3 * q.2.2.1.length ≤ 1 + 3 * s.1.length) (fun q=>q.2.2.1.length) (v,rdL 3 .fls s) rfl
  ⟨h1,hc1,ho1,rfl,hlen,by show (rdL 3 .fls s).1.size + 3 * (rdL 3 .fls s).2.1.length ≤ _;omega⟩ ?_
 rintro ⟨v,a,q⟩ w3 Kn ⟨h3,hc3,ho3,hq,hql,hqs⟩ hKn
 have h3:RdS e b t q w3:=h3
 have ho3:OwK 2 w.heap.size aA w3 v a.size a.cells:=ho3
 have hq:rdL 5 a q = _:=hq
 have hql:q.1.length ≤ s.1.length:=hql
 have hqs:a.size + 3 * q.1.length ≤ 1 + 3 * s.1.length:=hqs
 intro _
 refine iCall ((bH 38 (by decide) (by omega) h3).mono ?_)
 rintro _ w4 ⟨rfl,h4,hc4⟩
 have ho4:=ho3.ch hc4 (iI h ho3 (Nat.le_refl _))
 rw [← hq,rdL5]
 cases hk:tk 38 q
 ·rw [hk,if_neg (by decide)] at h4
  rw [if_neg (by decide)]
  exact iCndF rfl ⟨h4,aE hc3 hc4,ho4⟩
 ·rw [hk,if_pos rfl] at h4
  have hnx:=a8 hk
  rw [if_pos rfl]
  refine iCndT rfl ?_
  refine iCall ((hsub e b t _ w4 ht h4 (by rw [fl3];omega)).mono ?_)
  rintro v5 w5 ⟨h5,hc5,ho5⟩
  have hz5:=b9 3 .fls (nx q)
  have hl5:=jZ 3 .fls (nx q)
  have ho45:=ho4.ch hc5 (iI h ho4 (Nat.le_refl _))
  have hsz:(Fm.and a (rdL 3 .fls (nx q)).1).size ≤ 1099511627776:=by
   show 1 + _ + _ ≤ _;omega
  refine iCall ((cK (c:=.and a (rdL 3 .fls (nx q)).1) (k:=2) rfl rfl ho45.sl ho5.sl hsz).mono ?_)
  rintro v6 w6 ⟨h6,ho6⟩
  have hcc:=aE hc3 (aE hc4 hc5)
  have e1:rdL 5 (rdL 3 .fls s).1 (rdL 3 .fls s).2 = rdL 5 (.and a (rdL 3 .fls (nx q)).1) (rdL 3 .fls (nx q)).2:=by rw [← hq,rdL5,if_pos hk]
  refine hKn (v6,.and a (rdL 3 .fls (nx q)).1,(rdL 3 .fls (nx q)).2) _ ⟨h5.ext h6,aT hcc h6,ho6.mono hcc.size,e1.symm,by show (rdL 3 .fls (nx q)).2.1.length ≤ _;omega,?_⟩ (by show (rdL 3 .fls (nx q)).2.1.length < q.1.length;omega)
  show 1 + a.size + (rdL 3 .fls (nx q)).1.size + 3 * (rdL 3 .fls (nx q)).2.1.length ≤ _
  omega
theorem HR {m:Nat} (him:Rds b7 0 m) (e:TypeId) (b:Nat) (t:Str) (s:RSt) (w:World) (ht:t.length ≤ 4194304) (h:RdS e b t s w) (hm:8 * s.1.length + 1 ≤ m + 1) (hn1:tk 126 s = false) (hn2:tk 91 s = false) (hn3:tk 60 s = false):
  Cal Tryz.prog vD #[.pointer (some ⟨b,0,none⟩)] w (ReadQ e b t aA (rdL 3 .fls s) w):=by
 apply I2;unfold iC
 have htl:=h.len
 have key:∀ {r:Fm × RSt},(rdL 3 .fls s = r → iC (.pointer (some ⟨b,0,none⟩)) w (ReadQ e b t aA r w)) → rdL 3 .fls s = r → iC (.pointer (some ⟨b,0,none⟩)) w (ReadQ e b t aA (rdL 3 .fls s) w):=fun h e=>by rw [e];exact h e
 refine iCall ((aV 70 (by decide) (by omega) h).mono ?_)
 rintro _ w1 ⟨rfl,h1,hc1⟩
 have two:∀ {c d:UInt8},tk c s = true → c ≠ d → tk d s = false:=fun a b=>OG a b
 cases k1:tk 70 s
 rotate_left
 ·rw [k1,if_pos rfl] at h1
  refine iCndT rfl ?_
  have er:rdL 3 .fls s = (.fls,nx s):=rdL3 (Q:=fun x=>x = _) (fun h=>absurd (hn1.symm.trans h) (by decide)) (fun h=>absurd (hn2.symm.trans h) (by decide)) (fun h=>absurd (hn3.symm.trans h) (by decide)) (fun _=>rfl) (fun h=>absurd ((two k1 (by decide)).symm.trans h) (by decide)) (fun h=>absurd ((two k1 (by decide)).symm.trans h) (by decide)) (fun v hv h=>absurd ((two k1 (fK hv (by decide)).symm).symm.trans h) (by decide)) (fun _ _ _ h _ _ _=>absurd (h.symm.trans k1) (by decide))
  rw [er]
  refine iCall ((uD w1).mono ?_)
  rintro v w2 ⟨h2,ho2⟩
  exact ⟨h1.ext h2,aT hc1 h2,ho2.mono hc1.size⟩
 rw [k1,if_neg (by decide)] at h1
 refine iCndF rfl ?_
 refine iCall ((aV 84 (by decide) (by omega) h1).mono ?_)
 rintro _ w3 ⟨rfl,h3,hc3⟩
 have hc13:=aE hc1 hc3
 cases k2:tk 84 s
 rotate_left
 ·rw [k2,if_pos rfl] at h3
  refine iCndT rfl ?_
  have er:rdL 3 .fls s = (.imp .fls .fls,nx s):=rdL3 (Q:=fun x=>x = _) (fun h=>absurd (hn1.symm.trans h) (by decide)) (fun h=>absurd (hn2.symm.trans h) (by decide)) (fun h=>absurd (hn3.symm.trans h) (by decide)) (fun h=>absurd (k1.symm.trans h) (by decide)) (fun _=>rfl) (fun h=>absurd ((two k2 (by decide)).symm.trans h) (by decide)) (fun v hv h=>absurd ((two k2 (fK hv (by decide)).symm).symm.trans h) (by decide)) (fun _ _ _ _ h _ _=>absurd (h.symm.trans k2) (by decide))
  rw [er]
  refine iCall ((R7 w3).mono ?_)
  rintro v w2 ⟨h2,ho2⟩
  exact ⟨h3.ext h2,aT hc13 h2,ho2.mono hc13.size⟩
 rw [k2,if_neg (by decide)] at h3
 refine iCndF rfl ?_
 refine iCall ((aV 40 (by decide) (by omega) h3).mono ?_)
 rintro _ w5 ⟨rfl,h5,hc5⟩
 have hc15:=aE hc13 hc5
 cases k3:tk 40 s
 rotate_left
 ·rw [k3,if_pos rfl] at h5
  refine iCndT rfl ?_
  have er:rdL 3 .fls s = ((rdL 0 .fls (nx s)).1,ndd 41 (rdL 0 .fls (nx s)).2):=rdL3 (Q:=fun x=>x = _) (fun h=>absurd (hn1.symm.trans h) (by decide)) (fun h=>absurd (hn2.symm.trans h) (by decide)) (fun h=>absurd (hn3.symm.trans h) (by decide)) (fun h=>absurd (k1.symm.trans h) (by decide)) (fun h=>absurd (k2.symm.trans h) (by decide)) (fun _=>rfl) (fun v hv h=>absurd ((two k3 (fK hv (by decide)).symm).symm.trans h) (by decide)) (fun _ _ _ _ _ h _=>absurd (h.symm.trans k3) (by decide))
  rw [er]
  have hnx:=a8 k3
  refine iCall ((him e b t _ w5 ht h5 (by rw [fl0];omega)).mono ?_)
  rintro v w6 ⟨h6,hc6,ho6⟩
  refine iCall ((lM 41 (by decide) (by omega) h6).mono ?_)
  rintro _ w7 ⟨h7,hc7⟩
  exact ⟨h7,aE hc15 (aE hc6 hc7),(ho6.ch hc7 (iI h ho6 hc15.size)).mono hc15.size⟩
 rw [k3,if_neg (by decide)] at h5
 refine iCndF rfl ?_
 have hlet:(.string ⟨#[112,113,114,115,116,117]⟩:Value) = sv [112,113,114,115,116,117]:=rfl
 rw [hlet]
 refine Z0 (by kernel_rfl) fun q w8 hq h8 hI=>?_
 have hqb:q ≠ b:=by have:=h5.lt;omega
 refine iLp (fun _:Nat=>[]) (fun i w'=>i ≤ 6 ∧ RdS e b t s w' ∧ Ch (fun x=>x = b) w w' ∧ It w' q [112,113,114,115,116,117] i ∧ w.heap.size ≤ q ∧ ∀ v,v < i → tk (vl v) s = false) (fun i=>6 - i) 0 rfl ⟨Nat.zero_le _,h5.ext h8,aT hc15 h8,hI,by have:=hc15.size;omega,fun v hv=>by omega⟩ ?_
 rintro i w10 Kn ⟨hi,h10,hc10,hI10,hwq,hno⟩ hKn
 intro _
 by_cases hi6:i = 6
 ·subst hi6
  refine aAI hI10 (by decide) ?_
  refine iEx (by rfl) ?_
  refine iCndF rfl ?_
  have er:rdL 3 .fls s = (.fls,(s.1,true)):=rdL3 (Q:=fun x=>x = _) (fun h=>absurd (hn1.symm.trans h) (by decide)) (fun h=>absurd (hn2.symm.trans h) (by decide)) (fun h=>absurd (hn3.symm.trans h) (by decide)) (fun h=>absurd (k1.symm.trans h) (by decide)) (fun h=>absurd (k2.symm.trans h) (by decide)) (fun h=>absurd (k3.symm.trans h) (by decide)) (fun v hv h=>absurd ((hno v hv).symm.trans h) (by decide)) (fun _ _ _ _ _ _ _=>rfl)
  rw [er]
  obtain ⟨k,_,_,hB⟩:=id h10
  ((with_reducible refine iNil ?_;refine iFa ?_))
  refine iStB hB (by simp) rfl fun _=>?_
  have hu:=Upd.setCell w10 b 2 (.bool true)
  refine iCall ((uD _).mono ?_)
  rintro v w2 ⟨h2,ho2⟩
  have hcu:=hc10.trans (hu.ch (S:=fun x=>x = b) rfl) (fun _ h=>.inl h)
  exact ⟨(RdS.bad h10).ext h2,aT hcu h2,ho2.mono hcu.size⟩
 ·have hi5:i < 6:=by omega
  have hgd:(([112,113,114,115,116,117]:Str).getD i 0) = vl i:=by
   have:i = 0 ∨ i = 1 ∨ i = 2 ∨ i = 3 ∨ i = 4 ∨ i = 5:=by omega
   rcases this with rfl | rfl | rfl | rfl | rfl | rfl <;> rfl
  refine aAC hI10 (by show i < 6;exact hi5) fun c d w11 _ hlow _ _ hu hI11=>?_
  rw [hgd,I1 i hi5] at hlow
  obtain ⟨rfl,rfl⟩:=hlow (by omega)
  have hcu:Ch (fun x=>x = b) w w11:=hc10.trans (hu.ch (S:=fun x=>x = q) rfl) (fun x hx=>.inr (by omega))
  have h11:RdS e b t s w11:=by
   obtain ⟨k,a1,a2,hB⟩:=h10
   exact ⟨k,a1,a2,hB.upd hu (fun e=>hqb e.symm)⟩
  ((with_reducible refine iE30 ?_))
  refine iCndT rfl ?_
  ((with_reducible refine iE31 ?_;refine iE32 ?_))
  refine ⟨_,_,rfl,?_⟩
  have ew:IntKind.u8.wrap ((112 + i:Nat):Int) = (((vl i).toNat:Nat):Int):=by
   rw [I1 i hi5]
   have:i = 0 ∨ i = 1 ∨ i = 2 ∨ i = 3 ∨ i = 4 ∨ i = 5:=by omega
   rcases this with rfl | rfl | rfl | rfl | rfl | rfl <;> decide
  refine iCall ((aV (vl i) ew (by omega) h11).mono ?_)
  rintro _ w12 ⟨rfl,h12,hc12⟩
  have hcc:=aE hcu hc12
  cases kv:tk (vl i) s
  ·rw [kv,if_neg (by decide)] at h12
   refine iCndF rfl ?_
   refine hKn (i + 1) _ ⟨by omega,h12,hcc,hI11.ch hc12 hqb,hwq,fun v hv=>?_⟩ (by omega)
   by_cases hvi:v = i
   ·rw [hvi];exact kv
   ·exact hno v (by omega)
  ·rw [kv,if_pos rfl] at h12
   refine iCndT rfl ?_
   have er:rdL 3 .fls s = (.var i,nx s):=rdL3 (Q:=fun x=>x = _) (fun h=>absurd (hn1.symm.trans h) (by decide)) (fun h=>absurd (hn2.symm.trans h) (by decide)) (fun h=>absurd (hn3.symm.trans h) (by decide)) (fun h=>absurd (k1.symm.trans h) (by decide)) (fun h=>absurd (k2.symm.trans h) (by decide)) (fun h=>absurd (k3.symm.trans h) (by decide)) (fun v hv h=>by
    have:vl i = vl v:=by
     apply Classical.byContradiction
     intro hne
     exact absurd ((two kv hne).symm.trans h) (by decide)
    rw [WQ hi5 hv this]) (fun _ _ _ _ _ _ h=>absurd ((h i hi5).symm.trans kv) (by decide))
   rw [er]
   refine iCall ((zG i w12).mono ?_)
   rintro v w2 ⟨h2,ho2⟩
   exact ⟨h12.ext h2,aT hcc h2,ho2.mono hcc.size⟩
theorem C7 {m:Nat} (hpre:Rds dU 3 m) (him:Rds b7 0 m):Rds dU 3 (m + 1):=by
 intro e b t s w ht h hm
 rw [fl3] at hm
 apply FM;unfold rL
 have htl:=h.len
 have two:∀ {c d:UInt8},tk c s = true → c ≠ d → tk d s = false:=fun a b=>OG a b
 refine iCall ((aV 126 (by decide) (by omega) h).mono ?_)
 rintro _ w1 ⟨rfl,h1,hc1⟩
 have hf:Fm.fls.size = 1:=rfl
 cases k1:tk 126 s
 rotate_left
 ·rw [k1,if_pos rfl] at h1
  refine iCndT rfl ?_
  have er:rdL 3 .fls s = (.imp (rdL 3 .fls (nx s)).1 .fls,(rdL 3 .fls (nx s)).2):=rdL3 (Q:=fun x=>x = _) (fun _=>rfl) (fun h=>absurd ((two k1 (by decide)).symm.trans h) (by decide)) (fun h=>absurd ((two k1 (by decide)).symm.trans h) (by decide)) (fun h=>absurd ((two k1 (by decide)).symm.trans h) (by decide)) (fun h=>absurd ((two k1 (by decide)).symm.trans h) (by decide)) (fun h=>absurd ((two k1 (by decide)).symm.trans h) (by decide)) (fun v hv h=>absurd ((two k1 (fK hv (by decide)).symm).symm.trans h) (by decide)) (fun h _ _ _ _ _ _=>absurd (h.symm.trans k1) (by decide))
  rw [er]
  have hnx:=a8 k1
  refine iCall ((hpre e b t _ w1 ht h1 (by rw [fl3];omega)).mono ?_)
  rintro v w2 ⟨h2,hc2,ho2⟩
  have hz:=b9 3 .fls (nx s)
  refine iCall ((NO ho2.sl (by omega)).mono ?_)
  rintro v w3 ⟨h3,ho3⟩
  have hcc:=aE hc1 hc2
  exact ⟨h2.ext h3,aT hcc h3,ho3.mono hcc.size⟩
 rw [k1,if_neg (by decide)] at h1
 refine iCndF rfl ?_
 refine iCall ((aV 91 (by decide) (by omega) h1).mono ?_)
 rintro _ w3 ⟨rfl,h3,hc3⟩
 have hc13:=aE hc1 hc3
 cases k2:tk 91 s
 rotate_left
 ·rw [k2,if_pos rfl] at h3
  refine iCndT rfl ?_
  have er:rdL 3 .fls s = (.box (rdL 3 .fls (ndd 93 (nx s))).1,(rdL 3 .fls (ndd 93 (nx s))).2):=rdL3 (Q:=fun x=>x = _) (fun h=>absurd (k1.symm.trans h) (by decide)) (fun _=>rfl) (fun h=>absurd ((two k2 (by decide)).symm.trans h) (by decide)) (fun h=>absurd ((two k2 (by decide)).symm.trans h) (by decide)) (fun h=>absurd ((two k2 (by decide)).symm.trans h) (by decide)) (fun h=>absurd ((two k2 (by decide)).symm.trans h) (by decide)) (fun v hv h=>absurd ((two k2 (fK hv (by decide)).symm).symm.trans h) (by decide)) (fun _ h _ _ _ _ _=>absurd (h.symm.trans k2) (by decide))
  rw [er]
  have hnx:=a8 k2
  have hnd:=mX 93 (nx s)
  refine iCall ((lM 93 (by decide) (by omega) h3).mono ?_)
  rintro _ w4 ⟨h4,hc4⟩
  refine iCall ((hpre e b t _ w4 ht h4 (by rw [fl3];omega)).mono ?_)
  rintro v w5 ⟨h5,hc5,ho5⟩
  have hz:=b9 3 .fls (ndd 93 (nx s))
  refine iCall ((t8 (c:=.box (rdL 3 .fls (ndd 93 (nx s))).1) (k:=5) rfl rfl ho5.sl (by show 1 + _ ≤ _;omega)).mono ?_)
  rintro v w6 ⟨h6,ho6⟩
  have hcc:=aE hc13 (aE hc4 hc5)
  exact ⟨h5.ext h6,aT hcc h6,ho6.mono hcc.size⟩
 rw [k2,if_neg (by decide)] at h3
 refine iCndF rfl ?_
 refine iCall ((aV 60 (by decide) (by omega) h3).mono ?_)
 rintro _ w7 ⟨rfl,h7,hc7⟩
 have hc17:=aE hc13 hc7
 cases k3:tk 60 s
 rotate_left
 ·rw [k3,if_pos rfl] at h7
  refine iCndT rfl ?_
  have er:rdL 3 .fls s = (.dia (rdL 3 .fls (ndd 62 (nx s))).1,(rdL 3 .fls (ndd 62 (nx s))).2):=rdL3 (Q:=fun x=>x = _) (fun h=>absurd (k1.symm.trans h) (by decide)) (fun h=>absurd (k2.symm.trans h) (by decide)) (fun _=>rfl) (fun h=>absurd ((two k3 (by decide)).symm.trans h) (by decide)) (fun h=>absurd ((two k3 (by decide)).symm.trans h) (by decide)) (fun h=>absurd ((two k3 (by decide)).symm.trans h) (by decide)) (fun v hv h=>absurd ((two k3 (fK hv (by decide)).symm).symm.trans h) (by decide)) (fun _ _ h _ _ _ _=>absurd (h.symm.trans k3) (by decide))
  rw [er]
  have hnx:=a8 k3
  have hnd:=mX 62 (nx s)
  refine iCall ((lM 62 (by decide) (by omega) h7).mono ?_)
  rintro _ w4 ⟨h4,hc4⟩
  refine iCall ((hpre e b t _ w4 ht h4 (by rw [fl3];omega)).mono ?_)
  rintro v w5 ⟨h5,hc5,ho5⟩
  have hz:=b9 3 .fls (ndd 62 (nx s))
  refine iCall ((t8 (c:=.dia (rdL 3 .fls (ndd 62 (nx s))).1) (k:=6) rfl rfl ho5.sl (by show 1 + _ ≤ _;omega)).mono ?_)
  rintro v w6 ⟨h6,ho6⟩
  have hcc:=aE hc17 (aE hc4 hc5)
  exact ⟨h5.ext h6,aT hcc h6,ho6.mono hcc.size⟩
 rw [k3,if_neg (by decide)] at h7
 refine iCndF rfl ?_
 refine iCall ((HR him e b t s w7 ht h7 hm k1 k2 k3).mono ?_)
 rintro v w8 ⟨h8,hc8,ho8⟩
 exact ⟨h8,aE hc17 hc8,ho8.mono hc17.size⟩
theorem UJ:∀ m,Rds b7 0 m ∧ Rds kD 1 m ∧ Rds jH 2 m ∧ Rds dU 3 m
 | 0=>⟨fun _ _ _ _ _ _ _ h=>by rw [fl0] at h;omega,fun _ _ _ _ _ _ _ h=>by rw [fl1] at h;omega,fun _ _ _ _ _ _ _ h=>by rw [fl2] at h;omega,fun _ _ _ _ _ _ _ h=>by rw [fl3] at h;omega⟩
 | m + 1=>
  have h:=UJ m
  ⟨FP h.2.1 h.1,K0 h.2.2.1,I7 h.2.2.2,C7 h.2.2.2 h.1⟩
theorem rU {e:TypeId} {b:Nat} {t:Str} {s:RSt} {w:World} (ht:t.length ≤ 4194304) (h:RdS e b t s w):Cal Tryz.prog b7 #[.pointer (some ⟨b,0,none⟩)] w (ReadQ e b t aA (rdL 0 .fls s) w):=
 (UJ _).1 e b t s w ht h (Nat.le_refl _)
end Go.Proofs.YtbfpohbmgjcjmaaGreatDoor

namespace Go.Vc
def rdOk (t:Str):Bool:=!(rd t).2.2 && decide ((rd t).2.1 = [])
def rdAt (t:Str):Nat:=t.length - (rd t).2.1.length
theorem TV (t:Str):rd t = rdL 0 .fls (t,false):=rfl
theorem XF (t:Str):(rd t).2.1.length ≤ t.length:=jZ 0 .fls (t,false)
theorem U3 (t:Str):(rd t).1.good:=cY _ _ _ _ trivial
theorem RdS.place {e:TypeId} {b:Nat} {t:Str} {s:RSt} {w:World} (h:RdS e b t s w):Blk e w b [sv t,.int .i64 ((t.length - s.1.length:Nat):Int),.bool s.2]:=by
 obtain ⟨k,h1,h2,h3⟩:=h
 have:t.length - s.1.length = k:=by rw [h2,List.length_drop];omega
 rw [this];exact h3
theorem RdS.new {e:TypeId} {b:Nat} {t:Str} {w:World} (h:Blk e w b [sv t,.int .i64 0,.bool false]):RdS e b t (t,false) w:=⟨0,Nat.zero_le _,rfl,h⟩
end Go.Vc
namespace Go.Proofs.YtbfpohbmgjcjmaaGreatDoor
open Go.Vc
theorem LF {m:Nat} (hpre:Rds gO 3 m) (him:Rds fH 0 m):Rds gO 3 (m + 1):=by
 intro e b t s w ht h hm
 rw [fl3] at hm
 apply NK;unfold y8
 have htl:=h.len
 have hf:Fm.fls.size = 1:=rfl
 have two:∀ {c d:UInt8},tk c s = true → c ≠ d → tk d s = false:=fun a b=>OG a b
 have hlet:(.string ⟨#[112,113,114,115,116,117]⟩:Value) = sv [112,113,114,115,116,117]:=rfl
 rw [hlet]
 refine iLp (fun i:Nat=>[.int .i64 (i:Int)]) (fun i w'=>i ≤ 6 ∧ RdS e b t s w' ∧ Ch (fun x=>x = b) w w' ∧ ∀ v,v < i → tk (vl v) s = false) (fun i=>6 - i) 0 rfl ⟨Nat.zero_le _,h,(Ext.refl w).ch,fun v hv=>by omega⟩ ?_
 rintro i w2 Kn ⟨hi,h2,hc2,hno⟩ hKn
 (intro _;(try simp only [gx]))
 refine iLenT ?_
 refine iLt ?_
 refine iCndP (fun h3=>?_) (fun h3=>?_)
 ·have hi5:i < 6:=by simp at h3;omega
  have hgd:(([112,113,114,115,116,117]:Str).getD i 0) = vl i:=by
   have:i = 0 ∨ i = 1 ∨ i = 2 ∨ i = 3 ∨ i = 4 ∨ i = 5:=by omega
   rcases this with rfl | rfl | rfl | rfl | rfl | rfl <;> rfl
  refine iIs (by show i < 6;exact hi5) ?_
  rw [hgd]
  refine iCall ((bH (vl i) rfl (by omega) h2).mono ?_)
  rintro _ w3 ⟨rfl,h4,hc4⟩
  have hcc:=aE hc2 hc4
  cases kv:tk (vl i) s
  ·rw [kv,if_neg (by decide)] at h4
   refine iCndF rfl ?_
   (refine iAdd (by omega) ?_)
   refine hKn (i + 1) _ ⟨by omega,h4,hcc,fun v hv=>?_⟩ (by omega)
   by_cases hvi:v = i
   ·rw [hvi];exact kv
   ·exact hno v (by omega)
  ·rw [kv,if_pos rfl] at h4
   refine iCndT rfl ?_
   have er:rdL 3 .fls s = (.var i,nx s):=rdL3 (Q:=fun x=>x = _) (fun h=>absurd ((two kv (fK hi5 (by decide))).symm.trans h) (by decide)) (fun h=>absurd ((two kv (fK hi5 (by decide))).symm.trans h) (by decide)) (fun h=>absurd ((two kv (fK hi5 (by decide))).symm.trans h) (by decide)) (fun h=>absurd ((two kv (fK hi5 (by decide))).symm.trans h) (by decide)) (fun h=>absurd ((two kv (fK hi5 (by decide))).symm.trans h) (by decide)) (fun h=>absurd ((two kv (fK hi5 (by decide))).symm.trans h) (by decide)) (fun v hv h=>by
    have:vl i = vl v:=by
     apply Classical.byContradiction
     intro hne
     exact absurd ((two kv hne).symm.trans h) (by decide)
    rw [WQ hi5 hv this]) (fun _ _ _ _ _ _ h=>absurd ((h i hi5).symm.trans kv) (by decide))
   rw [er]
   refine iCall ((uI i w3).mono ?_)
   rintro v w4 ⟨h5,ho5⟩
   exact ⟨h4.ext h5,aT hcc h5,ho5.mono hcc.size⟩
 have hi6:i = 6:=by simp at h3;omega
 subst hi6
 refine iCall ((bH 70 (by decide) (by omega) h2).mono ?_)
 rintro _ wa1 ⟨rfl,ha1,ca1⟩
 have cb1:=aE hc2 ca1
 cases k1:tk 70 s
 rotate_left
 ·rw [k1,if_pos rfl] at ha1
  refine iCndT rfl ?_
  have er:rdL 3 .fls s = (.fls,nx s):=rdL3 (Q:=fun x=>x = _) (fun h=>absurd ((two k1 (by decide)).symm.trans h) (by decide)) (fun h=>absurd ((two k1 (by decide)).symm.trans h) (by decide)) (fun h=>absurd ((two k1 (by decide)).symm.trans h) (by decide)) (fun _=>rfl) (fun h=>absurd ((two k1 (by decide)).symm.trans h) (by decide)) (fun h=>absurd ((two k1 (by decide)).symm.trans h) (by decide)) (fun v hv h=>absurd ((hno v hv).symm.trans h) (by decide)) (fun _ _ _ h _ _ _=>absurd (h.symm.trans k1) (by decide))
  rw [er]
  have hnx:=a8 k1
  refine iCall ((gR wa1).mono ?_)
  rintro v w4 ⟨h5,ho5⟩
  exact ⟨ha1.ext h5,aT cb1 h5,ho5.mono cb1.size⟩
 rw [k1,if_neg (by decide)] at ha1
 refine iCndF rfl ?_
 refine iCall ((bH 84 (by decide) (by omega) ha1).mono ?_)
 rintro _ wa2 ⟨rfl,ha2,ca2⟩
 have cb2:=aE cb1 ca2
 cases k2:tk 84 s
 rotate_left
 ·rw [k2,if_pos rfl] at ha2
  refine iCndT rfl ?_
  have er:rdL 3 .fls s = (.imp .fls .fls,nx s):=rdL3 (Q:=fun x=>x = _) (fun h=>absurd ((two k2 (by decide)).symm.trans h) (by decide)) (fun h=>absurd ((two k2 (by decide)).symm.trans h) (by decide)) (fun h=>absurd ((two k2 (by decide)).symm.trans h) (by decide)) (fun h=>absurd (k1.symm.trans h) (by decide)) (fun _=>rfl) (fun h=>absurd ((two k2 (by decide)).symm.trans h) (by decide)) (fun v hv h=>absurd ((hno v hv).symm.trans h) (by decide)) (fun _ _ _ _ h _ _=>absurd (h.symm.trans k2) (by decide))
  rw [er]
  have hnx:=a8 k2
  refine iCall ((B7 wa2).mono ?_)
  rintro v w4 ⟨h5,ho5⟩
  exact ⟨ha2.ext h5,aT cb2 h5,ho5.mono cb2.size⟩
 rw [k2,if_neg (by decide)] at ha2
 refine iCndF rfl ?_
 refine iCall ((bH 126 (by decide) (by omega) ha2).mono ?_)
 rintro _ wa3 ⟨rfl,ha3,ca3⟩
 have cb3:=aE cb2 ca3
 cases k3:tk 126 s
 rotate_left
 ·rw [k3,if_pos rfl] at ha3
  refine iCndT rfl ?_
  have er:rdL 3 .fls s = (.imp (rdL 3 .fls (nx s)).1 .fls,(rdL 3 .fls (nx s)).2):=rdL3 (Q:=fun x=>x = _) (fun _=>rfl) (fun h=>absurd ((two k3 (by decide)).symm.trans h) (by decide)) (fun h=>absurd ((two k3 (by decide)).symm.trans h) (by decide)) (fun h=>absurd (k1.symm.trans h) (by decide)) (fun h=>absurd (k2.symm.trans h) (by decide)) (fun h=>absurd ((two k3 (by decide)).symm.trans h) (by decide)) (fun v hv h=>absurd ((hno v hv).symm.trans h) (by decide)) (fun h _ _ _ _ _ _=>absurd (h.symm.trans k3) (by decide))
  rw [er]
  have hnx:=a8 k3
  refine iCall ((hpre e b t _ wa3 ht ha3 (by rw [fl3];omega)).mono ?_)
  rintro v w5 ⟨h5,hc5,ho5⟩
  have hz:=b9 3 .fls (nx s)
  refine iCall ((t9 ho5.sl (by omega)).mono ?_)
  rintro v w6 ⟨h6,ho6⟩
  have hcc:=aE cb3 hc5
  exact ⟨h5.ext h6,aT hcc h6,ho6.mono hcc.size⟩
 rw [k3,if_neg (by decide)] at ha3
 refine iCndF rfl ?_
 refine iCall ((bH 91 (by decide) (by omega) ha3).mono ?_)
 rintro _ wa4 ⟨rfl,ha4,ca4⟩
 have cb4:=aE cb3 ca4
 cases k4:tk 91 s
 rotate_left
 ·rw [k4,if_pos rfl] at ha4
  refine iCndT rfl ?_
  have er:rdL 3 .fls s = (.box (rdL 3 .fls (ndd 93 (nx s))).1,(rdL 3 .fls (ndd 93 (nx s))).2):=rdL3 (Q:=fun x=>x = _) (fun h=>absurd (k3.symm.trans h) (by decide)) (fun _=>rfl) (fun h=>absurd ((two k4 (by decide)).symm.trans h) (by decide)) (fun h=>absurd (k1.symm.trans h) (by decide)) (fun h=>absurd (k2.symm.trans h) (by decide)) (fun h=>absurd ((two k4 (by decide)).symm.trans h) (by decide)) (fun v hv h=>absurd ((hno v hv).symm.trans h) (by decide)) (fun _ h _ _ _ _ _=>absurd (h.symm.trans k4) (by decide))
  rw [er]
  have hnx:=a8 k4
  have hnd:=mX 93 (nx s)
  refine iCall ((rQ 93 (by decide) (by omega) ha4).mono ?_)
  rintro _ w4 ⟨h4,hc4⟩
  refine iCall ((hpre e b t _ w4 ht h4 (by rw [fl3];omega)).mono ?_)
  rintro v w5 ⟨h5,hc5,ho5⟩
  have hz:=b9 3 .fls (ndd 93 (nx s))
  refine iCall ((jK (c:=.box (rdL 3 .fls (ndd 93 (nx s))).1) (k:=5) rfl rfl ho5.sl (by show 1 + _ ≤ _;omega)).mono ?_)
  rintro v w6 ⟨h6,ho6⟩
  have hcc:=aE cb4 (aE hc4 hc5)
  exact ⟨h5.ext h6,aT hcc h6,ho6.mono hcc.size⟩
 rw [k4,if_neg (by decide)] at ha4
 refine iCndF rfl ?_
 refine iCall ((bH 60 (by decide) (by omega) ha4).mono ?_)
 rintro _ wa5 ⟨rfl,ha5,ca5⟩
 have cb5:=aE cb4 ca5
 cases k5:tk 60 s
 rotate_left
 ·rw [k5,if_pos rfl] at ha5
  refine iCndT rfl ?_
  have er:rdL 3 .fls s = (.dia (rdL 3 .fls (ndd 62 (nx s))).1,(rdL 3 .fls (ndd 62 (nx s))).2):=rdL3 (Q:=fun x=>x = _) (fun h=>absurd (k3.symm.trans h) (by decide)) (fun h=>absurd (k4.symm.trans h) (by decide)) (fun _=>rfl) (fun h=>absurd (k1.symm.trans h) (by decide)) (fun h=>absurd (k2.symm.trans h) (by decide)) (fun h=>absurd ((two k5 (by decide)).symm.trans h) (by decide)) (fun v hv h=>absurd ((hno v hv).symm.trans h) (by decide)) (fun _ _ h _ _ _ _=>absurd (h.symm.trans k5) (by decide))
  rw [er]
  have hnx:=a8 k5
  have hnd:=mX 62 (nx s)
  refine iCall ((rQ 62 (by decide) (by omega) ha5).mono ?_)
  rintro _ w4 ⟨h4,hc4⟩
  refine iCall ((hpre e b t _ w4 ht h4 (by rw [fl3];omega)).mono ?_)
  rintro v w5 ⟨h5,hc5,ho5⟩
  have hz:=b9 3 .fls (ndd 62 (nx s))
  refine iCall ((jK (c:=.dia (rdL 3 .fls (ndd 62 (nx s))).1) (k:=6) rfl rfl ho5.sl (by show 1 + _ ≤ _;omega)).mono ?_)
  rintro v w6 ⟨h6,ho6⟩
  have hcc:=aE cb5 (aE hc4 hc5)
  exact ⟨h5.ext h6,aT hcc h6,ho6.mono hcc.size⟩
 rw [k5,if_neg (by decide)] at ha5
 refine iCndF rfl ?_
 refine iCall ((bH 40 (by decide) (by omega) ha5).mono ?_)
 rintro _ wa6 ⟨rfl,ha6,ca6⟩
 have cb6:=aE cb5 ca6
 cases k6:tk 40 s
 rotate_left
 ·rw [k6,if_pos rfl] at ha6
  refine iCndT rfl ?_
  have er:rdL 3 .fls s = ((rdL 0 .fls (nx s)).1,ndd 41 (rdL 0 .fls (nx s)).2):=rdL3 (Q:=fun x=>x = _) (fun h=>absurd (k3.symm.trans h) (by decide)) (fun h=>absurd (k4.symm.trans h) (by decide)) (fun h=>absurd (k5.symm.trans h) (by decide)) (fun h=>absurd (k1.symm.trans h) (by decide)) (fun h=>absurd (k2.symm.trans h) (by decide)) (fun _=>rfl) (fun v hv h=>absurd ((hno v hv).symm.trans h) (by decide)) (fun _ _ _ _ _ h _=>absurd (h.symm.trans k6) (by decide))
  rw [er]
  have hnx:=a8 k6
  refine iCall ((him e b t _ wa6 ht ha6 (by rw [fl0];omega)).mono ?_)
  rintro v w6 ⟨h6,hc6,ho6⟩
  refine iCall ((rQ 41 (by decide) (by omega) h6).mono ?_)
  rintro _ w7 ⟨h7,hc7⟩
  exact ⟨h7,aE cb6 (aE hc6 hc7),(ho6.ch hc7 (iI h ho6 cb6.size)).mono cb6.size⟩
 rw [k6,if_neg (by decide)] at ha6
 refine iCndF rfl ?_
 have er:rdL 3 .fls s = (.fls,(s.1,true)):=rdL3 (Q:=fun x=>x = _) (fun h=>absurd (k3.symm.trans h) (by decide)) (fun h=>absurd (k4.symm.trans h) (by decide)) (fun h=>absurd (k5.symm.trans h) (by decide)) (fun h=>absurd (k1.symm.trans h) (by decide)) (fun h=>absurd (k2.symm.trans h) (by decide)) (fun h=>absurd (k6.symm.trans h) (by decide)) (fun v hv h=>absurd ((hno v hv).symm.trans h) (by decide)) (fun _ _ _ _ _ _ _=>rfl)
 rw [er]
 obtain ⟨k,_,_,hB⟩:=id ha6
 ((with_reducible refine iNil ?_;refine iFa ?_))
 refine iStB hB (by simp) rfl fun _=>?_
 have hu:=Upd.setCell wa6 b 2 (.bool true)
 refine iCall ((gR _).mono ?_)
 rintro v w4 ⟨h5,ho5⟩
 have hcu:=cb6.trans (hu.ch (S:=fun x=>x = b) rfl) (fun _ h=>.inl h)
 exact ⟨(RdS.bad ha6).ext h5,aT hcu h5,ho5.mono hcu.size⟩
theorem U1:∀ m,Rds fH 0 m ∧ Rds rE 1 m ∧ Rds pK 2 m ∧ Rds gO 3 m
 | 0=>⟨fun _ _ _ _ _ _ _ h=>by rw [fl0] at h;omega,fun _ _ _ _ _ _ _ h=>by rw [fl1] at h;omega,fun _ _ _ _ _ _ _ h=>by rw [fl2] at h;omega,fun _ _ _ _ _ _ _ h=>by rw [fl3] at h;omega⟩
 | m + 1=>
  have h:=U1 m
  ⟨MW h.2.1 h.1,R5 h.2.2.1,QI h.2.2.2,LF h.2.2.2 h.1⟩
theorem NP {e:TypeId} {b:Nat} {t:Str} {s:RSt} {w:World} (ht:t.length ≤ 4194304) (h:RdS e b t s w):Cal Tryz.prog fH #[.pointer (some ⟨b,0,none⟩)] w (ReadQ e b t aA (rdL 0 .fls s) w):=
 (U1 _).1 e b t s w ht h (Nat.le_refl _)
theorem OU {t:Str} (ht:t.length ≤ 4194304) (w:World):Cal Tryz.prog DK #[sv t] w fun r w'=>Ext w w' ∧ ∃ v,r = .tuple #[v,.int .i64 (if rdOk t then -1 else (rdAt t:Int))] ∧ (rdOk t = true → FmW w.heap.size w' v (rd t).1) ∧ (rdOk t = false → v = .slice none 0 0):=by
 apply P5;unfold DV
 refine f8 (cs:=#[sv t,.int .i64 0,.bool false]) (by simp [Instr.fill,Value.cells]) ?_
 refine iNew fun b w1 hb h1 hB=>?_
 obtain ⟨e,hB⟩:∃ e,Blk e w1 b [sv t,.int .i64 0,.bool false]:=⟨_,hB⟩
 refine iCall ((NP ht (RdS.new hB)).mono ?_)
 rintro v w2 ⟨h2,hc2,ho2⟩
 rw [← TV] at h2 ho2
 have hX2:Ext w w2:=h1.thenCh hc2 (fun c hc=>by omega)
 have hB2:=h2.place
 have hrl:=XF t
 have hlt:decide (((t.length - (rd t).2.1.length:Nat):Int) < (t.length:Nat)) = !decide ((rd t).2.1 = []):=by
  cases hr:(rd t).2.1 with
  | nil=>simp
  | cons x l=>rw [hr] at hrl;simp only [List.length_cons] at hrl ⊢;rw [decide_eq_true (by omega)];rfl
 have hor:rdOk t = !((rd t).2.2 || !decide ((rd t).2.1 = [])):=by unfold rdOk;rw [Bool.not_or,Bool.not_not]
 refine iJnB ((rd t).2.2 || !decide ((rd t).2.1 = [])) w2 (fun J hJ=>?_) (fun w4 h4=>?_)
 ·((with_reducible refine iNil ?_;refine iFa ?_);refine iLdB (by assumption) (by first | rfl | simp) ?_)
  cases hb2:(rd t).2.2
  ·rw [hb2,Bool.false_or] at hJ
   refine iCndF rfl ?_
   ((with_reducible refine iNil ?_;refine iFa ?_);refine iLdB (by assumption) (by first | rfl | simp) ?_)
   refine iLenT ?_
   ((with_reducible refine iLt ?_))
   rw [hlt]
   exact hJ w2 (Ext.refl _)
  ·rw [hb2,Bool.true_or] at hJ
   exact iCndT rfl (hJ w2 (Ext.refl _))
 ·intro _
  have hB4:=hB2.ext h4
  cases hk:rdOk t
  ·refine iCndT (by show ((rd t).2.2 || !decide ((rd t).2.1 = [])) = true;rw [hk] at hor;rwa [Eq.comm,Bool.not_eq_false'] at hor) ?_
   ((with_reducible refine iNil ?_;refine iFa ?_);refine iLdB (by assumption) (by first | rfl | simp) ?_)
   intro w5 h5
   exact ⟨hX2.trans (h4.trans h5),_,rfl,(fun h=>by cases h),fun _=>rfl⟩
  ·refine iCndF (by show ((rd t).2.2 || !decide ((rd t).2.1 = [])) = false;rw [hk] at hor;rwa [Eq.comm,Bool.not_eq_true'] at hor) ?_
   exact ⟨hX2.trans h4,v,rfl,fun _=>(ho2.mono h1.size).ext h4,fun h=>by cases h⟩
end Go.Proofs.YtbfpohbmgjcjmaaGreatDoor





namespace Go.Vc
/-! ### Rows of strings -/
def strs (L:List Str):List Value:=L.map sv
theorem cB (L:List Str):(strs L).length = L.length:=List.length_map _
theorem WY (L:List Str) (s:Str):strs L ++ [sv s] = strs (L ++ [s]):=by simp [strs]
abbrev SlT (w:World) (v:Value) (L:List Str):Prop:=Sl w v (strs L)
theorem iIaT {w:World} {v:Value} {L:List Str} {j:Nat} {k:IntKind} {K:Value → Prop} (hs:SlT w v L) (hj:j < L.length) (h:∀ p,w.cell? p = some (sv L[j]) → K (.pointer (some p))):xIa 1 v (.int k (j:Int)) K:=by
 refine iIa hs (by omega) (by rw [cB];omega) fun p hp=>h p (hp.trans ?_)
 rw [Int.toNat_natCast]
 simp [strs,hj]
theorem fI {w:World} {v:Value} {L:List Str} {K:Value → Prop} (hs:SlT w v L) (h:K (.int .i64 (L.length:Nat))):xLenS v K:=iLenS hs (by rw [cB];exact h)
theorem wP (L:List Str):∀ u ∈ strs L,aF u = true:=by
 intro u hu
 obtain ⟨s,_,rfl⟩:=List.mem_map.1 hu
 rfl
end Go.Vc


namespace Go.Proofs.YtbfpohbmgjcjmaaGreatDoor
open Go.Vc
theorem AD {v:Value} {f:Fm} {w:World} (hs:FmS w v f):Ret Tryz.prog B1 #[v] w (.bool (decide (f = .fls))):=by
 apply OH;unfold BS
 refine iFld (j:=0) hs rfl f.size_pos (by decide) (aO hs).1 ?_
 refine iEq ⟨?_,Ext.refl _⟩
 congr 1
 refine decide_eq_decide.2 ?_
 cases f <;> simp [Fm.kind]
theorem vV {v:Value} {f:Fm} {w:World} (hs:FmS w v f) (hn:f.size ≤ 1099511627776):Ret Tryz.prog yJ #[v] w (.bool f.isNeg):=by
 apply KX;unfold xY
 refine iJnB f.isNeg w (fun J hJ=>?_) (fun w2 h2=>fun _=>⟨by first | trivial | rfl,h2⟩)
 refine iFld (j:=0) hs rfl f.size_pos (by decide) (aO hs).1 ?_
 refine iEq ?_
 refine iCndP (fun h=>?_) (fun h=>?_)
 ·cases f <;> simp only [Fm.kind] at h <;> (try omega)
  rename_i a b
  refine iCall ((aS (g:=a) (h:=b) hs rfl hn).mono ?_)
  rintro u w3 ⟨h3,hu⟩
  exact iRet (AD hu) fun w4 h4=>hJ _ (h3.trans h4)
 ·cases f <;> first | exact hJ _ (Ext.refl _) | (simp [Fm.kind] at h)
theorem OZ {v:Value} {f:Fm} {w:World} (hs:FmS w v f) (hn:f.size ≤ 1099511627776):Ret Tryz.prog C5 #[v] w (.int .i64 (f.own:Int)):=by
 apply QT;unfold EI
 refine iJnB (decide (f.kind = 4) && !f.isNeg) w (fun J hJ=>?_) (fun w2 h2=>?_)
 ·refine iFld (j:=0) hs rfl f.size_pos (by decide) (aO hs).1 ?_
  refine iEq ?_
  refine iCndP (fun h=>?_) (fun h=>?_)
  ·rw [decide_eq_true (show f.kind = 4 by omega),Bool.true_and] at hJ
   refine iRet (vV hs hn) fun w3 h3=>?_
   exact iNot (hJ _ h3)
  ·rw [decide_eq_false (show ¬ f.kind = 4 by omega),Bool.false_and] at hJ
   exact hJ _ (Ext.refl _)
 ·intro _
  simp only [gx]
  have hs2:=hs.ext h2
  cases hc:decide (f.kind = 4) && !f.isNeg
  ·refine iCndF rfl ?_
   refine iFld (j:=0) hs2 rfl f.size_pos (by decide) (aO hs).1 ?_
   refine iEq ?_
   refine iCndP (fun h=>?_) (fun h=>?_)
   ·refine ⟨?_,h2⟩
    cases f <;> simp only [Fm.kind] at h <;> first | omega | rfl
   ·refine iFld (j:=0) hs2 rfl f.size_pos (by decide) (aO hs).1 ?_
    refine iEq ?_
    refine iCndP (fun h'=>?_) (fun h'=>?_)
    ·refine ⟨?_,h2⟩
     cases f <;> simp only [Fm.kind] at h' <;> first | omega | rfl
    ·refine ⟨?_,h2⟩
     cases f <;> simp [Fm.kind,Fm.isNeg] at h h' hc <;> simp [Fm.own,hc]
  ·refine iCndT rfl ⟨?_,h2⟩
   cases f <;> simp [Fm.kind,Fm.isNeg] at hc
   simp [Fm.own,hc]
end Go.Proofs.YtbfpohbmgjcjmaaGreatDoor

namespace Go.Vc
theorem RA {v:Nat} (hv:v < 6):(([112,113,114,115,116,117]:Str).drop v).take (v + 1 - v) = [vl v]:=by
 have:∀ v:Fin 6,(([112,113,114,115,116,117]:Str).drop v.val).take (v.val + 1 - v.val) = [vl v.val]:=by decide
 exact this ⟨v,hv⟩
theorem ZK {f:Fm} {lv:Nat} (h:f.own < lv):f.txt lv = [40] ++ f.txt 0 ++ [41]:=by
 rw [pW h,dJ (Nat.zero_le _)];simp
def pCode (t:Str):Int:=if 200 < t.length then 3 else if rdOk t then (if 40 < (rd t).1.size then 3 else 0) else 6
def pAt (t:Str):Nat:=if 200 < t.length then 0 else if rdOk t then 0 else rdAt t
theorem O3 {t:Str} (h:pCode t = 0):(rd t).1.size ≤ 40 ∧ t.length ≤ 200 ∧ rdOk t = true:=by
 unfold pCode at h
 split at h
 ·cases h
 ·split at h
  ·split at h
   ·cases h
   ·rename_i h1 h2 h3;exact ⟨by omega,by omega,h2⟩
  ·cases h
def goodT (t:Str):Bool:=decide (pCode t = 0) && decide ((rd t).1.body = t)
end Go.Vc
namespace Go.Proofs.YtbfpohbmgjcjmaaGreatDoor
open Go.Vc
theorem uK:∀ (m:Nat) {v:Value} {f:Fm} {lv:Nat} {w:World},2 * f.size + (if f.own < lv then 1 else 0) ≤ m → FmS w v f → f.good → f.size ≤ 1099511627776 → lv ≤ 3 → Ret Tryz.prog wY #[v,.int .i64 (lv:Int)] w (sv (f.txt lv))
 | 0,v,f,lv,w,hm,_,_,_,_=>by have:=f.size_pos;omega
 | m + 1,v,f,lv,w,hm,hs,hg,hn,hlv=>by
  apply RZ;unfold GL
  have hbl:=body_len f
  have htl:=fun lv=>cG lv f
  refine iRet (OZ hs hn) fun w1 h1=>?_
  have hs1:=hs.ext h1
  refine iLt ?_
  refine iCndP (fun h=>?_) (fun h=>?_)
  ·have h:f.own < lv:=by omega
   rw [if_pos h] at hm
   refine iRet (uK m (lv:=0) (by rw [if_neg (by omega)];omega) hs1 hg hn (by decide)) fun w2 h2=>?_
   have:=htl 0
   refine iCat (a:=[40]) (by simp only [List.length_singleton];omega) ?_
   refine iCat (b:=[41]) (by simp only [List.length_append,List.length_singleton];omega) ?_
   rw [← ZK h]
   exact ⟨by first | trivial | rfl,h1.trans h2⟩
  ·have h:lv ≤ f.own:=by omega
   rw [dJ h]
   rw [if_neg (by omega)] at hm
   have hk:=aO hs
   refine iFld (j:=0) hs1 rfl f.size_pos (by decide) hk.1 ?_
   -- any part of the formula, at any level
   have sub:∀ {g:Fm} {u:Value} {w':World} {l:Nat},g.size < f.size → FmS w' u g → g.good → l ≤ 3 → Ret Tryz.prog wY #[u,.int .i64 (l:Int)] w' (sv (g.txt l)):=fun {g u w' l} h1 h2 h3 h4=>
    uK m (by split <;> omega) h2 h3 (by omega) h4
   cases f with
   | var x=>
    refine iEq (iCndT rfl ?_)
    refine iFld (j:=0) hs1 rfl (Fm.size_pos _) (by decide) hk.2 ?_
    refine iFld (j:=0) hs1 rfl (Fm.size_pos _) (by decide) hk.2 ?_
    have hx:x < 6:=hg
    refine iAdd (by show _ ≤ (x:Int) + 1 ∧ (x:Int) + 1 ≤ _;omega) ?_
    refine XB (l:=[112,113,114,115,116,117]) (i:=x) (j:=x + 1) (by omega) (by show x + 1 ≤ 6;omega) ?_
    intro w3 h3
    rw [RA hx]
    exact ⟨by first | trivial | rfl,h1.trans h3⟩
   | fls=>
    refine iEq (iCndF rfl (iEq (iCndT rfl ?_)))
    exact ⟨by first | trivial | rfl,h1⟩
   | and a b=>
    refine iEq (iCndF rfl (iEq (iCndF rfl (iEq (iCndT rfl ?_)))))
    simp only [Fm.size] at hn
    have ha:=cG 2 a
    have hb:=cG 3 b
    refine iCall ((aM hs1 (g:=a) (gs:=[b]) rfl (by simp only [Fm.size];omega)).mono ?_)
    rintro u w4 ⟨h4,hu⟩
    refine iRet (sub (l:=2) (by simp only [Fm.size];omega) hu hg.1 (by decide)) fun w5 h5=>?_
    refine iCat (b:=[38]) (by simp only [List.length_singleton];omega) ?_
    have hs5:=(hs1.ext h4).ext h5
    refine iCall ((aS hs5 (g:=a) (h:=b) rfl (by simp only [Fm.size];omega)).mono ?_)
    rintro u' w6 ⟨h6,hu'⟩
    refine iRet (sub (l:=3) (by simp only [Fm.size];omega) hu' hg.2 (by decide)) fun w7 h7=>?_
    refine iCat (by simp only [List.length_append,List.length_singleton];omega) ?_
    refine ⟨?_,(((h1.trans h4).trans h5).trans h6).trans h7⟩
    simp [Fm.body,Fm.txt]
   | or a b=>
    refine iEq (iCndF rfl (iEq (iCndF rfl (iEq (iCndF rfl (iEq (iCndT rfl ?_)))))))
    simp only [Fm.size] at hn
    have ha:=cG 1 a
    have hb:=cG 2 b
    refine iCall ((aM hs1 (g:=a) (gs:=[b]) rfl (by simp only [Fm.size];omega)).mono ?_)
    rintro u w4 ⟨h4,hu⟩
    refine iRet (sub (l:=1) (by simp only [Fm.size];omega) hu hg.1 (by decide)) fun w5 h5=>?_
    refine iCat (b:=[124]) (by simp only [List.length_singleton];omega) ?_
    have hs5:=(hs1.ext h4).ext h5
    refine iCall ((aS hs5 (g:=a) (h:=b) rfl (by simp only [Fm.size];omega)).mono ?_)
    rintro u' w6 ⟨h6,hu'⟩
    refine iRet (sub (l:=2) (by simp only [Fm.size];omega) hu' hg.2 (by decide)) fun w7 h7=>?_
    refine iCat (by simp only [List.length_append,List.length_singleton];omega) ?_
    refine ⟨?_,(((h1.trans h4).trans h5).trans h6).trans h7⟩
    simp [Fm.body,Fm.txt]
   | box a=>
    refine iEq (iCndF rfl (iEq (iCndF rfl (iEq (iCndF rfl (iEq (iCndF rfl (iEq (iCndT rfl ?_)))))))))
    simp only [Fm.size] at hn
    have ha:=cG 3 a
    refine iCall ((aM hs1 (g:=a) (gs:=[]) rfl (by simp only [Fm.size];omega)).mono ?_)
    rintro u w4 ⟨h4,hu⟩
    refine iRet (sub (l:=3) (by simp only [Fm.size];omega) hu hg (by decide)) fun w5 h5=>?_
    refine iCat (a:=[91,93]) (by simp only [List.length_cons,List.length_nil];omega) ?_
    exact ⟨by first | trivial | rfl,(h1.trans h4).trans h5⟩
   | dia a=>
    refine iEq (iCndF rfl (iEq (iCndF rfl (iEq (iCndF rfl (iEq (iCndF rfl (iEq (iCndF rfl (iEq (iCndT rfl ?_)))))))))))
    simp only [Fm.size] at hn
    have ha:=cG 3 a
    refine iCall ((aM hs1 (g:=a) (gs:=[]) rfl (by simp only [Fm.size];omega)).mono ?_)
    rintro u w4 ⟨h4,hu⟩
    refine iRet (sub (l:=3) (by simp only [Fm.size];omega) hu hg (by decide)) fun w5 h5=>?_
    refine iCat (a:=[60,62]) (by simp only [List.length_cons,List.length_nil];omega) ?_
    exact ⟨by first | trivial | rfl,(h1.trans h4).trans h5⟩
   | imp a b=>
    refine iEq (iCndF rfl (iEq (iCndF rfl (iEq (iCndF rfl (iEq (iCndF rfl (iEq (iCndF rfl (iEq (iCndF rfl ?_)))))))))))
    refine iRet (vV hs1 hn) fun w16 h16=>?_
    have hs16:=hs1.ext h16
    have h16':=h1.trans h16
    simp only [Fm.size] at hn
    refine iNot ?_
    have hbd:(Fm.imp a b).body = if b = .fls then (if a = .fls then [84] else 126 :: par (decide (a.own < 3)) a.body) else par (decide (a.own < 1)) a.body ++ 62 :: b.body:=by rw [Fm.body]
    rw [hbd]
    by_cases hb:b = .fls
    ·rw [if_pos hb]
     refine iCndF (by simp [Fm.isNeg,hb]) ?_
     refine iCall ((aM hs16 (g:=a) (gs:=[b]) rfl (by simp only [Fm.size];omega)).mono ?_)
     rintro u w21 ⟨h21,hu⟩
     refine iRet (AD hu) fun w22 h22=>?_
     have hs22:=(hs16.ext h21).ext h22
     have h22':=(h16'.trans h21).trans h22
     refine iCndP (fun ha=>?_) (fun ha=>?_)
     ·rw [if_pos ha]
      exact ⟨by first | trivial | rfl,h22'⟩
     ·rw [if_neg ha]
      have hal:=cG 3 a
      refine iCall ((aM hs22 (g:=a) (gs:=[b]) rfl (by simp only [Fm.size];omega)).mono ?_)
      rintro u' w23 ⟨h23,hu'⟩
      refine iRet (sub (l:=3) (by simp only [Fm.size];omega) hu' hg.1 (by decide)) fun w24 h24=>?_
      refine iCat (a:=[126]) (by simp only [List.length_singleton];omega) ?_
      exact ⟨by first | trivial | rfl,(h22'.trans h23).trans h24⟩
    ·rw [if_neg hb]
     refine iCndT (by simp [Fm.isNeg,hb]) ?_
     have ha1:=cG 1 a
     have hb0:=cG 0 b
     refine iCall ((aM hs16 (g:=a) (gs:=[b]) rfl (by simp only [Fm.size];omega)).mono ?_)
     rintro u w17 ⟨h17,hu⟩
     refine iRet (sub (l:=1) (by simp only [Fm.size];omega) hu hg.1 (by decide)) fun w18 h18=>?_
     refine iCat (b:=[62]) (by simp only [List.length_singleton];omega) ?_
     have hs18:=(hs16.ext h17).ext h18
     refine iCall ((aS hs18 (g:=a) (h:=b) rfl (by simp only [Fm.size];omega)).mono ?_)
     rintro u' w19 ⟨h19,hu'⟩
     refine iRet (sub (l:=0) (by simp only [Fm.size];omega) hu' hg.2 (by decide)) fun w20 h20=>?_
     refine iCat (by simp only [List.length_append,List.length_singleton];omega) ?_
     refine ⟨?_,(((h16'.trans h17).trans h18).trans h19).trans h20⟩
     simp [Fm.txt,par]
theorem bS {v:Value} {f:Fm} {w:World} (hs:FmS w v f) (hg:f.good) (hn:f.size ≤ 1099511627776):Ret Tryz.prog LQ #[v] w (sv f.body):=by
 apply UA;unfold LW
 refine iRet (uK _ (lv:=0) (Nat.le_refl _) hs hg hn (by decide)) fun w1 h1=>?_
 rw [dJ (Nat.zero_le _)]
 exact ⟨by first | trivial | rfl,h1⟩
theorem FmW.some {lo:Nat} {w:World} {v:Value} {f:Fm} (h:FmW lo w v f):∃ g c,lo ≤ g ∧ g < w.heap.size ∧ v = .slice (some ⟨g,0,none⟩) f.size c:=by
 obtain ⟨_,⟨_,h0⟩ | ⟨g,cap,cur,hv,hg,hh,_⟩⟩:=h
 ·have:=f.size_pos;omega
 ·exact ⟨g,cap,hg,hO hh,hv⟩
theorem F6 (t:Str) (w:World):Cal Tryz.prog tH #[sv t] w fun r w'=>Ext w w' ∧ ∃ v,r = .tuple #[v,.int .i64 (pAt t:Int),.int .i64 (pCode t)] ∧ (pCode t = 0 → FmW w.heap.size w' v (rd t).1) ∧ (¬ pCode t = 0 → v = .slice none 0 0):=by
 apply H0;unfold sZ
 refine iLenT ?_
 refine iLt ?_
 refine iCndP (fun h=>?_) (fun h=>?_)
 ·have e1:pCode t = 3:=by unfold pCode;rw [if_pos (by omega)]
  have e2:pAt t = 0:=by unfold pAt;rw [if_pos (by omega)]
  rw [e1,e2]
  exact ⟨Ext.refl _,_,rfl,(fun h=>by cases h),fun _=>rfl⟩
 ·have e1:pCode t = if rdOk t then (if 40 < (rd t).1.size then 3 else 0) else 6:=by unfold pCode;rw [if_neg (by omega)]
  have e2:pAt t = if rdOk t then 0 else rdAt t:=by unfold pAt;rw [if_neg (by omega)]
  refine f8 (cs:=#[sv t,.int .i64 0,.bool false]) (by simp [Instr.fill,Value.cells]) ?_
  refine iNew fun b w1 hb h1 hB=>?_
  refine iCall ((rU (by omega) (RdS.new hB)).mono ?_)
  rintro v w2 ⟨h2,hc2,hv2⟩
  rw [← TV] at h2 hv2
  have hX2:Ext w w2:=h1.thenCh hc2 fun c hc=>by omega
  have hB2:=h2.place
  have hrl:=XF t
  refine iJnB (!rdOk t) w2 (fun J hJ=>?_) (fun w4 h4=>?_)
  ·unfold rdOk at hJ
   ((with_reducible refine iNil ?_;refine iFa ?_);refine iLdB (by assumption) (by first | rfl | simp) ?_)
   cases hbad:(rd t).2.2
   ·rw [hbad] at hJ
    refine iCndF rfl ?_
    ((with_reducible refine iNil ?_;refine iFa ?_);refine iLdB (by assumption) (by first | rfl | simp) ?_)
    refine iLenT ?_
    ((with_reducible refine iLt ?_))
    have:decide (((t.length - (rd t).2.1.length:Nat):Int) < (t.length:Nat)) = !(!false && decide ((rd t).2.1 = [])):=by
     by_cases he:(rd t).2.1 = []
     ·rw [he];simp
     ·have:1 ≤ (rd t).2.1.length:=by
       rcases Nat.eq_zero_or_pos (rd t).2.1.length with h0 | h0
       ·exact absurd (List.length_eq_zero_iff.1 h0) he
       ·exact h0
      simp [he];omega
    rw [this]
    exact hJ w2 (Ext.refl _)
   ·rw [hbad] at hJ
    exact iCndT rfl (hJ w2 (Ext.refl _))
  ·intro _
   simp only [gx]
   have hB4:=hB2.ext h4
   cases hok:rdOk t
   ·refine iCndT rfl ?_
    rw [e1,e2,hok]
    ((with_reducible refine iNil ?_;refine iFa ?_);refine iLdB (by assumption) (by first | rfl | simp) ?_)
    intro w5 h5
    exact ⟨(hX2.trans h4).trans h5,_,rfl,(fun h=>by cases h),fun _=>rfl⟩
   ·refine iCndF rfl ?_
    have hv4:=OwK.ext hv2 h4
    rw [e1,e2,hok]
    refine iLenK hv4.sl ?_
    refine iLt ?_
    refine iCndP (fun h'=>?_) (fun h'=>?_)
    ·rw [if_pos rfl,if_pos (show 40 < (rd t).1.size by omega)]
     exact ⟨hX2.trans h4,_,rfl,(fun h=>by cases h),fun _=>rfl⟩
    ·rw [if_pos rfl,if_neg (show ¬ 40 < (rd t).1.size by omega)]
     exact ⟨hX2.trans h4,_,rfl,fun _=>hv4.mono h1.size,fun h=>absurd rfl h⟩
theorem nE (t:Str) (w:World):Cal Tryz.prog HC #[sv t] w fun v w'=>Ext w w' ∧ (pCode t = 0 → FmW w.heap.size w' v (rd t).1) ∧ (¬ pCode t = 0 → v = .slice none 0 0):=by
 apply RU;unfold GJ
 refine iCall ((F6 t w).mono ?_)
 rintro r w1 ⟨h1,v,rfl,hv,hn⟩
 refine iE30 ?_
 refine iE31 ?_
 refine iE32 ?_
 exact ⟨h1,hv,hn⟩
theorem QX (t:Str) (w:World):Ret Tryz.prog HF #[sv t] w (.bool (goodT t)):=by
 apply SA;unfold GC
 refine iCall ((nE t w).mono ?_)
 rintro v w1 ⟨h1,hv,hn⟩
 refine iJnB (goodT t) w1 (fun J hJ=>?_) (fun w3 h3=>fun _=>⟨by first | trivial | rfl,h1.trans h3⟩)
 unfold goodT at hJ
 by_cases hc:pCode t = 0
 ·rw [decide_eq_true hc,Bool.true_and] at hJ
  have hs:=(hv hc).sl
  obtain ⟨g,c,-,-,he⟩:=FmW.some (hv hc)
  subst he
  refine ⟨trivial,rfl,?_⟩
  refine iCndT rfl ?_
  refine iRet (bS hs (U3 t) (by have:=(O3 hc).1;omega)) fun w4 h4=>?_
  exact iEqT (hJ _ h4)
 ·rw [decide_eq_false hc,Bool.false_and] at hJ
  rw [hn hc]
  exact ⟨trivial,rfl,iCndF rfl (hJ _ (Ext.refl _))⟩
end Go.Proofs.YtbfpohbmgjcjmaaGreatDoor

namespace Go.Proofs.YtbfpohbmgjcjmaaGreatDoor
open Go.Vc
theorem iS {v:Value} {f g:Fm} {gs:List Fm} {w:World} (hs:FmS w v f) (hk:f.kids = g :: gs) (hn:f.size ≤ 1099511627776):Cal Tryz.prog uB #[v] w fun u w'=>Ext w w' ∧ FmS w' u g:=by
 apply PT;unfold ED
 have hsz:=f.size_kids
 rw [hk] at hsz
 simp only [sizeL,List.map_cons,List.sum_cons] at hsz
 refine iRet (lQ (i:=1) hs (uA hk) hn) fun w1 h1=>?_
 refine iSlK (i:=1) (j:=1 + g.size) (hs.ext h1) (by omega) (by omega) fun u hu=>⟨h1,?_⟩
 rw [uA hk,Nat.add_sub_cancel_left,← g.cells_len,List.take_left] at hu
 exact hu
theorem gM {v:Value} {f g h:Fm} {w:World} (hs:FmS w v f) (hk:f.kids = [g,h]) (hn:f.size ≤ 1099511627776):Cal Tryz.prog rR #[v] w fun u w'=>Ext w w' ∧ FmS w' u h:=by
 apply PI;unfold A8
 obtain ⟨hd,hsz⟩:=SQ hk
 refine iRet (lQ (i:=1) hs (uA hk) hn) fun w1 h1=>?_
 refine M4 (i:=1 + g.size) (hs.ext h1) (by omega) fun u hu=>⟨h1,?_⟩
 rw [hd,List.append_nil,hsz,Nat.add_sub_cancel_left] at hu
 exact hu
theorem VE {w:World} {v:Value} {f g:Fm} (hs:SlK 2 w v (f.size - 1) (f.cells.drop (1 * 2))) (hk:f.kids = [g]):FmS w v g:=by
 rw [uA hk] at hs
 have:=f.size_kids
 rw [hk] at this
 simp only [sizeL,List.map_cons,List.map_nil,List.sum_cons,List.sum_nil] at this
 rw [this,Nat.add_sub_cancel_left] at hs
 simpa [aJ] using hs
theorem QZ {f:Fm} {i:Nat} (hi:i < f.size):∃ a b:Int,f.cells[i * 2]? = some (.int .i64 a) ∧ f.cells[i * 2 + 1]? = some (.int .i64 b):=by
 suffices H:∀ (n:Nat) (fs:List Fm),sizeL fs ≤ n → ∀ i,i < sizeL fs → ∃ a b:Int,(aJ fs)[i * 2]? = some (.int .i64 a) ∧ (aJ fs)[i * 2 + 1]? = some (.int .i64 b) by
  have:=H (sizeL [f]) [f] (Nat.le_refl _) i (by simpa [sizeL] using hi)
  simpa [aJ] using this
 intro n
 induction n with
 | zero=>intro fs h i hi;omega
 | succ n ih=>
  intro fs h i hi
  cases fs with
  | nil=>simp [sizeL] at hi
  | cons g gs=>
   have e:aJ (g :: gs) = nd g.kind g.sym ++ aJ (g.kids ++ gs):=by
    rw [F4]
    simp only [aJ,List.flatMap_cons]
    rw [g.cells_kids]
    simp [aJ]
   have hsz:sizeL (g :: gs) = 1 + sizeL (g.kids ++ gs):=by rw [bY];have:=g.size_kids;simp only [sizeL,List.map_cons,List.sum_cons] at this ⊢;omega
   rw [e]
   cases i with
   | zero=>exact ⟨_,_,rfl,rfl⟩
   | succ i=>
    obtain ⟨a,b,h1,h2⟩:=ih (g.kids ++ gs) (by omega) i (by omega)
    refine ⟨a,b,?_,?_⟩
    ·rw [show (i + 1) * 2 = i * 2 + 1 + 1 by omega];simpa [nd] using h1
    ·rw [show (i + 1) * 2 + 1 = i * 2 + 1 + 1 + 1 by omega];simpa [nd] using h2
theorem iLdK {sz:Nat} {v:Value} {n:Nat} {xs:List Value} {cs:Array Value} {z:Int} {j:Nat} {k:IntKind} {w:World} {K:Value → Prop} (hs:SlK sz w v n xs) (hz:z = (j:Int)) (h1:j < n) (hc:cs.size = sz) (hx:∀ i,i < sz → xs[j * sz + i]? = cs[i]?) (h:K (.agg cs)):xIa sz v (.int k z) fun p=>xLdA w sz p K:=by
 subst hz
 refine iIaK hs h1 fun b o hcell=>?_
 refine ⟨_,cs,rfl,hc,fun i hi=>?_,h⟩
 rw [bF,hcell i hi,hx i hi]
theorem cW {v0 v1:Value} {f g:Fm} {w:World} (h0:FmS w v0 f) (h1:FmS w v1 g) (hn:f.size ≤ 1099511627776):Ret Tryz.prog r6 #[v0,v1] w (.bool (decide (f = g))):=by
 apply O8;unfold BV
 refine iLenK h0 ?_
 refine iLenK h1 ?_
 refine iNe ?_
 refine iCndP (fun h=>?_) (fun h=>?_)
 ·rw [decide_eq_false (show ¬ f = g from fun e=>h (by rw [e]))]
  exact ⟨by first | trivial | rfl,Ext.refl _⟩
 ·have hl:f.size = g.size:=by omega
  refine iLp (fun i:Nat=>[.int .i64 (i:Int)]) (fun i w'=>i ≤ f.size ∧ Ext w w' ∧ ∀ j,j < i * 2 → f.cells[j]? = g.cells[j]?) (fun i=>f.size - i) 0 rfl ⟨Nat.zero_le _,Ext.refl _,fun j hj=>by omega⟩ ?_
  rintro i w2 Kn ⟨hi,h2,he⟩ hKn
  intro _
  simp only [gx]
  refine iLenK (h0.ext h2) ?_
  refine iLt ?_
  refine iCndP (fun h3=>?_) (fun h3=>?_)
  ·obtain ⟨a,b,ha,hb⟩:=QZ (f:=f) (i:=i) (by omega)
   obtain ⟨c,d,hc,hd⟩:=QZ (f:=g) (i:=i) (by omega)
   refine iLdK (cs:=#[.int .i64 a,.int .i64 b]) (h0.ext h2) rfl (by omega) rfl (fun j hj=>by rcases j with _ | _ | j;exact ha;exact hb;omega) ?_
   refine iLdK (cs:=#[.int .i64 c,.int .i64 d]) (h1.ext h2) rfl (by omega) rfl (fun j hj=>by rcases j with _ | _ | j;exact hc;exact hd;omega) ?_
   refine yR (t0:=2) (t1:=2) (by kernel_rfl) (by kernel_rfl) (by kernel_rfl) (by kernel_rfl) (by kernel_rfl) (by kernel_rfl) ?_
   intro w3 h23
   refine iCndP (fun h4=>?_) (fun h4=>?_)
   ·rw [decide_eq_false (show ¬ f = g from fun e=>h4 (by
     subst e
     rw [ha] at hc;rw [hb] at hd
     simp only [Option.some.injEq,Value.int.injEq,true_and] at hc hd
     exact ⟨hc,hd⟩))]
    exact ⟨by first | trivial | rfl,h2.trans h23⟩
   ·refine iAdd (by omega) ?_
    have h4:=Classical.not_not.1 h4
    refine hKn (i + 1) _ ⟨by omega,h2.trans h23,fun j hj=>?_⟩ (by omega)
    by_cases h5:j < i * 2
    ·exact he j h5
    ·rcases (show j = i * 2 ∨ j = i * 2 + 1 by omega) with rfl | rfl
     ·rw [ha,hc,h4.1]
     ·rw [hb,hd,h4.2]
  ·rw [decide_eq_true (show f = g from RB (List.ext_getElem? fun j=>by
    by_cases hj:j < i * 2
    ·exact he j hj
    ·rw [List.getElem?_eq_none (by rw [f.cells_len];omega),List.getElem?_eq_none (by rw [g.cells_len];omega)]))]
   exact ⟨by first | trivial | rfl,h2⟩
theorem AF:∀ (m:Nat) {v:Value} {f:Fm} {lv:Nat} {w:World},f.size ≤ m → FmS w v f → f.good → f.size ≤ 1099511627776 → Ret Tryz.prog rW #[v,.int .i64 (lv:Int)] w (sv (f.txt lv))
 | 0,v,f,lv,w,hm,_,_,_=>by have:=f.size_pos;omega
 | m + 1,v,f,lv,w,hm,hs,hg,hn=>by
  apply OJ;unfold BB
  have hbl:=body_len f
  have hk:=aO hs
  refine iFld (j:=0) hs rfl f.size_pos (by decide) hk.1 ?_
  refine iEq ?_
  have sub:∀ {g:Fm} {u:Value} {w':World} {l:Nat},g.size < f.size → FmS w' u g → g.good → Ret Tryz.prog rW #[u,.int .i64 (l:Int)] w' (sv (g.txt l)):=fun {g u w' l} h1 h2 h3=>
   AF m (by omega) h2 h3 (by omega)
  refine iJnX (fun xs w'=>xs = [.int .i64 (f.own:Int),sv f.body] ∧ Ext w w') (fun J hJ=>?_) ?_
  rotate_left
  ·rintro xs w2 ⟨rfl,h2⟩
   intro _
   simp only [gx]
   refine iLt ?_
   refine iCndP (fun h=>?_) (fun h=>?_)
   ·refine iCat (a:=[40]) (by simp only [List.length_singleton];omega) ?_
    refine iCat (b:=[41]) (by simp only [List.length_append,List.length_singleton];omega) ?_
    rw [pW (show f.own < lv by omega)]
    exact ⟨by simp,h2⟩
   ·rw [dJ (show lv ≤ f.own by omega)]
    exact ⟨by first | trivial | rfl,h2⟩
  · -- a join whose values are handed on
   have pass:∀ {F:(List Value → World → Prop) → Prop} {J':List Value → World → Prop},(∀ xs w',xs = [.int .i64 (f.own:Int),sv f.body] ∧ Ext w w' → J' xs w') → (∀ J,(∀ xs w',xs = [.int .i64 (f.own:Int),sv f.body] ∧ Ext w w' → J xs w') → F J) → jn F fun xs w'=>∀ _:Nat → Value,J' [gx xs 0,gx xs 1] w':=fun {F J'} hJ' h=>
    iJnX (fun xs w'=>xs = [.int .i64 (f.own:Int),sv f.body] ∧ Ext w w') h fun xs w' ⟨e,hE⟩ _=>by subst e;exact hJ' _ _ ⟨rfl,hE⟩
   cases f with
   | var x=>
    refine iCndT rfl ?_
    refine iFld (j:=0) hs rfl (Fm.size_pos _) (by decide) hk.2 ?_
    refine iFld (j:=0) hs rfl (Fm.size_pos _) (by decide) hk.2 ?_
    have hx:x < 6:=hg
    refine iAdd (by show _ ≤ (x:Int) + 1 ∧ (x:Int) + 1 ≤ _;omega) ?_
    refine XB (l:=[112,113,114,115,116,117]) (i:=x) (j:=x + 1) (by omega) (by show x + 1 ≤ 6;omega) ?_
    intro w3 h3
    rw [RA hx]
    exact hJ _ _ ⟨rfl,h3⟩
   | fls=>
    refine iCndF rfl (iEq (pass hJ fun J hJ=>iCndT rfl ?_))
    exact hJ _ _ ⟨rfl,Ext.refl _⟩
   | box a=>
    refine iCndF rfl (iEq (pass hJ fun J hJ=>iCndF rfl (iEq (pass hJ fun J hJ=>iCndT rfl ?_))))
    simp only [Fm.size] at hn
    have ha:=cG 3 a
    refine M4 (i:=1) hs (Fm.size_pos _) fun u hu=>?_
    refine iRet (sub (l:=3) (by simp only [Fm.size];omega) (VE hu rfl) hg) fun w5 h5=>?_
    refine iCat (a:=[91,93]) (by simp only [List.length_cons,List.length_nil];omega) ?_
    exact hJ _ _ ⟨rfl,h5⟩
   | dia a=>
    refine iCndF rfl (iEq (pass hJ fun J hJ=>iCndF rfl (iEq (pass hJ fun J hJ=>iCndF rfl (iEq (pass hJ fun J hJ=>iCndT rfl ?_))))))
    simp only [Fm.size] at hn
    have ha:=cG 3 a
    refine M4 (i:=1) hs (Fm.size_pos _) fun u hu=>?_
    refine iRet (sub (l:=3) (by simp only [Fm.size];omega) (VE hu rfl) hg) fun w5 h5=>?_
    refine iCat (a:=[60,62]) (by simp only [List.length_cons,List.length_nil];omega) ?_
    exact hJ _ _ ⟨rfl,h5⟩
   | and a b=>
    refine iCndF rfl (iEq (pass hJ fun J hJ=>iCndF rfl (iEq (pass hJ fun J hJ=>iCndF rfl (iEq (pass hJ fun J hJ=>iCndF rfl (iEq (pass hJ fun J hJ=>iCndT rfl ?_))))))))
    simp only [Fm.size] at hn
    have ha:=cG 2 a
    have hb:=cG 3 b
    refine iCall ((iS hs (g:=a) (gs:=[b]) rfl (by simp only [Fm.size];omega)).mono ?_)
    rintro u w4 ⟨h4,hu⟩
    refine iRet (sub (l:=2) (by simp only [Fm.size];omega) hu hg.1) fun w5 h5=>?_
    refine iCat (b:=[38]) (by simp only [List.length_singleton];omega) ?_
    have hs5:=(hs.ext h4).ext h5
    refine iCall ((gM hs5 (g:=a) (h:=b) rfl (by simp only [Fm.size];omega)).mono ?_)
    rintro u' w6 ⟨h6,hu'⟩
    refine iRet (sub (l:=3) (by simp only [Fm.size];omega) hu' hg.2) fun w7 h7=>?_
    refine iCat (by simp only [List.length_append,List.length_singleton];omega) ?_
    refine hJ _ _ ⟨?_,((h4.trans h5).trans h6).trans h7⟩
    simp [Fm.body,Fm.txt,Fm.own]
   | or a b=>
    refine iCndF rfl (iEq (pass hJ fun J hJ=>iCndF rfl (iEq (pass hJ fun J hJ=>iCndF rfl (iEq (pass hJ fun J hJ=>iCndF rfl (iEq (pass hJ fun J hJ=>iCndF rfl (iEq (pass hJ fun J hJ=>iCndT rfl ?_))))))))))
    simp only [Fm.size] at hn
    have ha:=cG 1 a
    have hb:=cG 2 b
    refine iCall ((iS hs (g:=a) (gs:=[b]) rfl (by simp only [Fm.size];omega)).mono ?_)
    rintro u w4 ⟨h4,hu⟩
    refine iRet (sub (l:=1) (by simp only [Fm.size];omega) hu hg.1) fun w5 h5=>?_
    refine iCat (b:=[124]) (by simp only [List.length_singleton];omega) ?_
    have hs5:=(hs.ext h4).ext h5
    refine iCall ((gM hs5 (g:=a) (h:=b) rfl (by simp only [Fm.size];omega)).mono ?_)
    rintro u' w6 ⟨h6,hu'⟩
    refine iRet (sub (l:=2) (by simp only [Fm.size];omega) hu' hg.2) fun w7 h7=>?_
    refine iCat (by simp only [List.length_append,List.length_singleton];omega) ?_
    refine hJ _ _ ⟨?_,((h4.trans h5).trans h6).trans h7⟩
    simp [Fm.body,Fm.txt,Fm.own]
   | imp a b=>
    refine iCndF rfl (iEq (pass hJ fun J hJ=>iCndF rfl (iEq (pass hJ fun J hJ=>iCndF rfl (iEq (pass hJ fun J hJ=>iCndF rfl (iEq (pass hJ fun J hJ=>iCndF rfl (iEq (pass hJ fun J hJ=>iCndF rfl (iEq (pass hJ fun J hJ=>iCndT rfl ?_))))))))))))
    have hbd:(Fm.imp a b).body = if b = .fls then (if a = .fls then [84] else 126 :: par (decide (a.own < 3)) a.body) else par (decide (a.own < 1)) a.body ++ 62 :: b.body:=by rw [Fm.body]
    have how:(Fm.imp a b).own = if b = .fls then 3 else 0:=by rw [Fm.own]
    refine iCall ((B7 w).mono ?_)
    rintro vt w26 ⟨h26,hvt⟩
    refine iRet (cW (hs.ext h26) hvt.sl (by omega)) fun w27 h27=>?_
    have h27':=h26.trans h27
    have hs27:=hs.ext h27'
    have hsz:(Fm.imp a b).size = 1 + a.size + b.size:=rfl
    refine pass hJ fun J hJ=>?_
    refine iCndP (fun h=>?_) (fun h=>?_)
    ·cases h
     exact hJ _ _ ⟨by simp [Fm.body,Fm.own],h27'⟩
    ·refine iCall ((gM hs27 (g:=a) (h:=b) rfl (by omega)).mono ?_)
     rintro u w30 ⟨h30,hu⟩
     have h30':=h27'.trans h30
     have hs30:=hs.ext h30'
     refine iFld (j:=0) hu rfl b.size_pos (by decide) (aO hu).1 ?_
     refine iEq ?_
     refine pass hJ fun J hJ=>?_
     refine iCndP (fun hb=>?_) (fun hb=>?_)
     ·have hb:b = .fls:=by cases b <;> first | rfl | (simp [Fm.kind] at hb)
      have ha:¬ a = .fls:=fun e=>h (by rw [e,hb])
      have hal:=cG 3 a
      refine iCall ((iS hs30 (g:=a) (gs:=[b]) rfl (by omega)).mono ?_)
      rintro u' w33 ⟨h33,hu'⟩
      refine iRet (sub (l:=3) (by omega) hu' hg.1) fun w34 h34=>?_
      refine iCat (a:=[126]) (by simp only [List.length_singleton];omega) ?_
      refine hJ _ _ ⟨?_,(h30'.trans h33).trans h34⟩
      rw [hbd,how,if_pos hb,if_pos hb,if_neg ha]
      rfl
     ·have hb:¬ b = .fls:=fun e=>hb (by rw [e];rfl)
      have ha1:=cG 1 a
      have hb0:=cG 0 b
      refine iCall ((iS hs30 (g:=a) (gs:=[b]) rfl (by omega)).mono ?_)
      rintro u' w35 ⟨h35,hu'⟩
      refine iRet (sub (l:=1) (by omega) hu' hg.1) fun w36 h36=>?_
      refine iCat (b:=[62]) (by simp only [List.length_singleton];omega) ?_
      have hs36:=(hs30.ext h35).ext h36
      refine iCall ((gM hs36 (g:=a) (h:=b) rfl (by omega)).mono ?_)
      rintro u'' w37 ⟨h37,hu''⟩
      refine iRet (sub (l:=0) (by omega) hu'' hg.2) fun w38 h38=>?_
      refine iCat (by simp only [List.length_append,List.length_singleton];omega) ?_
      refine hJ _ _ ⟨?_,(((h30'.trans h35).trans h36).trans h37).trans h38⟩
      rw [hbd,how,if_neg hb,if_neg hb]
      simp [Fm.txt,par]
theorem A7 {v:Value} {f:Fm} {w:World} (hs:FmS w v f) (hg:f.good) (hn:f.size ≤ 1099511627776):Ret Tryz.prog C1 #[v] w (sv f.body):=by
 apply QN;unfold FE
 refine iRet (AF _ (lv:=0) (Nat.le_refl _) hs hg hn) fun w1 h1=>?_
 rw [dJ (Nat.zero_le _)]
 exact ⟨by first | trivial | rfl,h1⟩
theorem F1 (t:Str) (w:World):Cal Tryz.prog tI #[sv t] w fun r w'=>Ext w w' ∧ ∃ v,r = .tuple #[v,.int .i64 (pAt t:Int),.int .i64 (pCode t)] ∧ (pCode t = 0 → FmW w.heap.size w' v (rd t).1) ∧ (¬ pCode t = 0 → v = .slice none 0 0):=by
 apply HJ;unfold tE
 refine iLenT ?_
 refine iLt ?_
 refine iCndP (fun h=>?_) (fun h=>?_)
 ·have e1:pCode t = 3:=by unfold pCode;rw [if_pos (by omega)]
  have e2:pAt t = 0:=by unfold pAt;rw [if_pos (by omega)]
  rw [e1,e2]
  exact ⟨Ext.refl _,_,rfl,(fun h=>by cases h),fun _=>rfl⟩
 ·have e1:pCode t = if rdOk t then (if 40 < (rd t).1.size then 3 else 0) else 6:=by unfold pCode;rw [if_neg (by omega)]
  have e2:pAt t = if rdOk t then 0 else rdAt t:=by unfold pAt;rw [if_neg (by omega)]
  refine iCall ((OU (by omega) w).mono ?_)
  rintro r w1 ⟨h1,v,rfl,hv,-⟩
  refine iE20 ?_
  refine iE21 ?_
  cases hok:rdOk t
  ·rw [if_neg (by decide)]
   refine iLe ?_
   refine iCndT (by simp) ?_
   rw [e1,e2,hok]
   exact ⟨h1,_,rfl,(fun h=>by cases h),fun _=>rfl⟩
  ·rw [if_pos rfl]
   refine iLe ?_
   refine iCndF (by decide) ?_
   rw [e1,e2,hok,if_pos rfl]
   refine iLenK (hv hok).sl ?_
   refine iLt ?_
   refine iCndP (fun h'=>?_) (fun h'=>?_)
   ·rw [if_pos (show 40 < (rd t).1.size by omega)]
    exact ⟨h1,_,rfl,(fun h=>by cases h),fun _=>rfl⟩
   ·rw [if_neg (show ¬ 40 < (rd t).1.size by omega)]
    exact ⟨h1,_,rfl,fun _=>hv hok,fun h=>absurd rfl h⟩
theorem OY (t:Str) (w:World):Cal Tryz.prog DZ #[sv t] w fun r w'=>Ext w w' ∧ ∃ v,r = .tuple #[v,.bool (goodT t)] ∧ (pCode t = 0 → FmW w.heap.size w' v (rd t).1):=by
 apply PW;unfold DW
 refine iCall ((F1 t w).mono ?_)
 rintro r w1 ⟨h1,v,rfl,hv,-⟩
 refine iE30 ?_
 refine iE31 ?_
 refine iE32 ?_
 refine iJnX (fun xs w'=>xs = [v,.bool (goodT t)] ∧ Ext w1 w') (fun J hJ=>?_) ?_
 ·refine iEq ?_
  unfold goodT at hJ
  refine iCndP (fun hc=>?_) (fun hc=>?_)
  ·rw [decide_eq_true hc,Bool.true_and] at hJ
   refine iRet (A7 (hv hc).sl (U3 t) (by have:=(O3 hc).1;omega)) fun w4 h4=>?_
   exact iEqT (hJ _ _ ⟨rfl,h4⟩)
  ·rw [decide_eq_false hc,Bool.false_and] at hJ
   exact hJ _ _ ⟨rfl,Ext.refl _⟩
 ·rintro xs w3 ⟨rfl,h3⟩
  intro _
  exact ⟨h1.trans h3,v,rfl,fun hc=>(hv hc).ext h3⟩
end Go.Proofs.YtbfpohbmgjcjmaaGreatDoor

namespace Go.Vc
def cE:List Str:=[[73,110,116],[67,76],[75],[68],[84],[75,52],[83,52],[83,53],[75,66],[71,76]]
def sysNo (t:Str):Nat:=cE.idxOf t
def sysT (t:Str):List Nat:=if sysNo t < 10 then sysS (sysNo t) else []
theorem KH (w:World):SlN w (.slice none 0 0) []:=(Ow.nil 0 2 w).sl
theorem lH {w:World} {e:TypeId} {b:Nat} {x:Nat} (h:Blk e w b [.int .i64 (x:Int)]):SlN w (.slice (some ⟨b,0,none⟩) 1 1) [x]:=Sl.ofBlk (n:=1) h rfl (by decide)
theorem KF {w:World} {e:TypeId} {b:Nat} {x y:Nat} (h:Blk e w b [.int .i64 (x:Int),.int .i64 (y:Int)]):SlN w (.slice (some ⟨b,0,none⟩) 2 2) [x,y]:=Sl.ofBlk (n:=2) h rfl (by decide)
theorem NZ {t:Str} (h:t ∉ cE):¬ sysNo t < 10 ∧ sysT t = []:=by
 have:sysNo t = 10:=by
  unfold sysNo
  rw [List.idxOf_eq_length h];rfl
 unfold sysT
 rw [this]
 exact ⟨by decide,rfl⟩
end Go.Vc
namespace Go.Proofs.YtbfpohbmgjcjmaaGreatDoor
open Go.Vc
theorem xU (t:Str) (w:World):Cal Tryz.prog zS #[sv t] w fun r w'=>Ext w w' ∧ ∃ u,r = .tuple #[u,.bool (decide (sysNo t < 10))] ∧ SlN w' u (sysT t):=by
 apply NS;unfold z7
 refine iEqT (b:=[73,110,116]) ?_
 refine iJnX (fun xs w'=>∃ (m:Nat) (u:Value) (M:List Nat),xs = [.int .i64 (m:Int),u] ∧ Ext w w' ∧ SlN w' u M ∧ m ≤ 20 ∧ sysNo t < 10 ∧ sysT t = List.range (m + 1) ++ M ∧ M.length ≤ 2) (fun J hJ=>?_) ?_
 ·refine iCndP (fun h=>?_) (fun h0=>iEqT (b:=[67,76]) (iJn (iCndP (fun h=>?_) (fun h1=>iEqT (b:=[75]) (iJn (iCndP (fun h=>?_) (fun h2=>iEqT (b:=[68]) (iJn (iCndP (fun h=>?_) (fun h3=>iEqT (b:=[84]) (iJn (iCndP (fun h=>?_) (fun h4=>iEqT (b:=[75,52]) (iJn (iCndP (fun h=>?_) (fun h5=>iEqT (b:=[83,52]) (iJn (iCndP (fun h=>?_) (fun h6=>iEqT (b:=[83,53]) (iJn (iCndP (fun h=>?_) (fun h7=>iEqT (b:=[75,66]) (iJn (iCndP (fun h=>?_) (fun h8=>iEqT (b:=[71,76]) (iCndP (fun h=>?_) (fun h9=>?_)))))))))))))))))))))))))))
  ·subst h
   exact hJ _ _ ⟨8,_,[],rfl,Ext.refl _,KH w,by decide,by decide,by decide,by decide⟩
  ·subst h
   repeat intro _
   exact hJ _ _ ⟨9,_,[],rfl,Ext.refl _,KH w,by decide,by decide,by decide,by decide⟩
  ·subst h
   repeat intro _
   exact hJ _ _ ⟨12,_,[],rfl,Ext.refl _,KH w,by decide,by decide,by decide,by decide⟩
  ·subst h
   refine iBs1 rfl rfl fun b w1 _ x1 hB=>?_
   repeat intro _
   exact hJ _ _ ⟨12,_,[17],rfl,x1,lH (x:=17) hB,by decide,by decide,by decide,by decide⟩
  ·subst h
   refine iBs1 rfl rfl fun b w1 _ x1 hB=>?_
   repeat intro _
   exact hJ _ _ ⟨12,_,[13],rfl,x1,lH (x:=13) hB,by decide,by decide,by decide,by decide⟩
  ·subst h
   refine iBs1 rfl rfl fun b w1 _ x1 hB=>?_
   repeat intro _
   exact hJ _ _ ⟨12,_,[14],rfl,x1,lH (x:=14) hB,by decide,by decide,by decide,by decide⟩
  ·subst h
   refine iBs2 rfl rfl rfl fun b w1 _ x1 hB=>?_
   repeat intro _
   exact hJ _ _ ⟨12,_,[13,14],rfl,x1,KF (x:=13) (y:=14) hB,by decide,by decide,by decide,by decide⟩
  ·subst h
   refine iBs2 rfl rfl rfl fun b w1 _ x1 hB=>?_
   repeat intro _
   exact hJ _ _ ⟨12,_,[13,15],rfl,x1,KF (x:=13) (y:=15) hB,by decide,by decide,by decide,by decide⟩
  ·subst h
   refine iBs1 rfl rfl fun b w1 _ x1 hB=>?_
   repeat intro _
   exact hJ _ _ ⟨12,_,[16],rfl,x1,lH (x:=16) hB,by decide,by decide,by decide,by decide⟩
  ·subst h
   refine iBs1 rfl rfl fun b w1 _ x1 hB=>?_
   repeat intro _
   exact hJ _ _ ⟨12,_,[18],rfl,x1,lH (x:=18) hB,by decide,by decide,by decide,by decide⟩
  ·obtain ⟨e1,e2⟩:=NZ (t:=t) (by simp [cE,h0,h1,h2,h3,h4,h5,h6,h7,h8,h9])
   refine ⟨Ext.refl _,_,by rw [decide_eq_false e1],by rw [e2];exact KH w⟩
 rintro _ w2 ⟨m,u,M,rfl,x2,hu,hm,hno,hsy,hMl⟩
 intro _
 simp only [gx]
 refine iAdd (by omega) ?_
 refine iLp (fun s:Value × Nat=>[s.1,.int .i64 (s.2:Int)]) (fun s w'=>s.2 ≤ m + 1 ∧ Ext w2 w' ∧ Ow w2.heap.size t_i64 w' s.1 (ints (nats (List.range s.2)))) (fun s=>m + 1 - s.2) (.slice none 0 0,0) rfl ⟨Nat.zero_le _,Ext.refl _,Ow.nil _ _ _⟩ ?_
 rintro ⟨z,i⟩ w3 Kn ⟨hi,x3,hz⟩ hKn
 have hi:i ≤ m + 1:=hi
 have hz:Ow w2.heap.size t_i64 w3 z (ints (nats (List.range i))):=hz
 have hzl:(ints (nats (List.range i))).length = i:=by rw [aL,cQ,List.length_range]
 intro _
 simp only [gx]
 refine iLt (iCndP (fun hlt=>?_) (fun hlt=>?_))
 ·refine iP fL fQ rfl hz rfl (by omega) (by omega) x3.size fun z' w5 ho5 hg5 _=>?_
  refine iAdd (by omega) ?_
  refine hKn (z',i + 1) _ ⟨by show i + 1 ≤ m + 1;omega,x3.grown hg5 fun c hc=>(hz.blk c hc).1,?_⟩ (by show m + 1 - (i + 1) < m + 1 - i;omega)
  show Ow _ _ _ z' (ints (nats (List.range (i + 1))))
  rw [List.range_succ,show ints (nats (List.range i ++ [i])) = ints (nats (List.range i)) ++ [.int .i64 (i:Int)] by simp [ints,nats]]
  exact ho5
 ·have:i = m + 1:=by omega
  subst this
  refine iApp fL fQ rfl hz (hu.ext x3) (fun y hy=>by
   obtain ⟨z,_,rfl⟩:=List.mem_map.1 hy
   rfl) (by rw [hzl,aL,cQ];omega) (by rw [hzl,aL,cQ];omega) x3.size fun z' w5 ho5 hg5=>?_
  refine ⟨(x2.trans x3).grown hg5 fun c hc=>Nat.le_trans x2.size (hz.blk c hc).1,z',by rw [decide_eq_true hno],?_⟩
  rw [hsy]
  show Sl _ _ (ints (nats (List.range (m + 1) ++ M)))
  rw [show ints (nats (List.range (m + 1) ++ M)) = ints (nats (List.range (m + 1))) ++ ints (nats M) by simp [ints,nats]]
  exact ho5.sl
theorem tB (t:Str) (w:World):Cal Tryz.prog n8 #[sv t] w fun r w'=>Ext w w' ∧ Ow 0 t_i64 w' r (ints (nats (sysT t))):=by
 apply KR;unfold yH
 refine iBs0 fun v7 w1 _ x0 ho7=>?_
 have hn:SlN w1 v7 []:=ho7.sl
 refine iEqT (b:=[73,110,116]) ?_
 refine iJnX (fun xs w'=>∃ (m:Nat) (u:Value) (M:List Nat),xs = [.int .i64 (m:Int),u] ∧ Ext w1 w' ∧ SlN w' u M ∧ m ≤ 20 ∧ sysT t = List.range m ++ M ∧ M.length ≤ 2) (fun J hJ=>?_) ?_
 ·refine iCndP (fun h=>?_) (fun h0=>iEqT (b:=[67,76]) (iJn (iCndP (fun h=>?_) (fun h1=>iEqT (b:=[75]) (iJn (iCndP (fun h=>?_) (fun h2=>iEqT (b:=[68]) (iJn (iCndP (fun h=>?_) (fun h3=>iEqT (b:=[84]) (iJn (iCndP (fun h=>?_) (fun h4=>iEqT (b:=[75,52]) (iJn (iCndP (fun h=>?_) (fun h5=>iEqT (b:=[83,52]) (iJn (iCndP (fun h=>?_) (fun h6=>iEqT (b:=[83,53]) (iJn (iCndP (fun h=>?_) (fun h7=>iEqT (b:=[75,66]) (iJn (iCndP (fun h=>?_) (fun h8=>iEqT (b:=[71,76]) (iCndP (fun h=>?_) (fun h9=>?_)))))))))))))))))))))))))))
  ·subst h
   exact hJ _ _ ⟨9,_,[],rfl,Ext.refl _,hn,by decide,by decide,by decide⟩
  ·subst h
   repeat intro _
   exact hJ _ _ ⟨10,_,[],rfl,Ext.refl _,hn,by decide,by decide,by decide⟩
  ·subst h
   repeat intro _
   exact hJ _ _ ⟨13,_,[],rfl,Ext.refl _,hn,by decide,by decide,by decide⟩
  ·subst h
   refine iBs1 rfl rfl fun b w1 _ x1 hB=>?_
   repeat intro _
   exact hJ _ _ ⟨13,_,[17],rfl,x1,lH (x:=17) hB,by decide,by decide,by decide⟩
  ·subst h
   refine iBs1 rfl rfl fun b w1 _ x1 hB=>?_
   repeat intro _
   exact hJ _ _ ⟨13,_,[13],rfl,x1,lH (x:=13) hB,by decide,by decide,by decide⟩
  ·subst h
   refine iBs1 rfl rfl fun b w1 _ x1 hB=>?_
   repeat intro _
   exact hJ _ _ ⟨13,_,[14],rfl,x1,lH (x:=14) hB,by decide,by decide,by decide⟩
  ·subst h
   refine iBs2 rfl rfl rfl fun b w1 _ x1 hB=>?_
   repeat intro _
   exact hJ _ _ ⟨13,_,[13,14],rfl,x1,KF (x:=13) (y:=14) hB,by decide,by decide,by decide⟩
  ·subst h
   refine iBs2 rfl rfl rfl fun b w1 _ x1 hB=>?_
   repeat intro _
   exact hJ _ _ ⟨13,_,[13,15],rfl,x1,KF (x:=13) (y:=15) hB,by decide,by decide,by decide⟩
  ·subst h
   refine iBs1 rfl rfl fun b w1 _ x1 hB=>?_
   repeat intro _
   exact hJ _ _ ⟨13,_,[16],rfl,x1,lH (x:=16) hB,by decide,by decide,by decide⟩
  ·subst h
   refine iBs1 rfl rfl fun b w1 _ x1 hB=>?_
   repeat intro _
   exact hJ _ _ ⟨13,_,[18],rfl,x1,lH (x:=18) hB,by decide,by decide,by decide⟩
  ·obtain ⟨e1,e2⟩:=NZ (t:=t) (by simp [cE,h0,h1,h2,h3,h4,h5,h6,h7,h8,h9])
   exact ⟨x0,by rw [e2];exact Ow.nil _ _ _⟩
 rintro _ w2 ⟨m,u,M,rfl,x2,hu,hm,hsy,hMl⟩
 intro _
 simp only [gx]
 refine iBs0 fun v36 w2' _ x36 ho36=>?_
 refine iLp (fun s:Value × Nat=>[s.1,.int .i64 (s.2:Int)]) (fun s w'=>s.2 ≤ m ∧ Ext w2 w' ∧ Ow w2.heap.size t_i64 w' s.1 (ints (nats (List.range s.2)))) (fun s=>m - s.2) (v36,0) rfl ⟨Nat.zero_le _,x36,ho36⟩ ?_
 rintro ⟨z,i⟩ w3 Kn ⟨hi,x3,hz⟩ hKn
 have hi:i ≤ m:=hi
 have hz:Ow w2.heap.size t_i64 w3 z (ints (nats (List.range i))):=hz
 have hzl:(ints (nats (List.range i))).length = i:=by rw [aL,cQ,List.length_range]
 intro _
 simp only [gx]
 refine iLt (iCndP (fun hlt=>?_) (fun hlt=>?_))
 ·refine iP fL fQ rfl hz rfl (by omega) (by omega) x3.size fun z' w5 ho5 hg5 _=>?_
  refine iAdd (by omega) ?_
  refine hKn (z',i + 1) _ ⟨by show i + 1 ≤ m;omega,x3.grown hg5 fun c hc=>(hz.blk c hc).1,?_⟩ (by show m - (i + 1) < m - i;omega)
  ·show Ow _ _ _ z' (ints (nats (List.range (i + 1))))
   rw [List.range_succ,show ints (nats (List.range i ++ [i])) = ints (nats (List.range i)) ++ [.int .i64 (i:Int)] by simp [ints,nats]]
   exact ho5
 ·have:i = m:=by omega
  subst this
  refine iApp fL fQ rfl hz (hu.ext x3) (fun y hy=>by
   obtain ⟨z,_,rfl⟩:=List.mem_map.1 hy
   rfl) (by rw [hzl,aL,cQ];omega) (by rw [hzl,aL,cQ];omega) x3.size fun z' w5 ho5 hg5=>?_
  refine ⟨((x0.trans x2).trans x3).grown hg5 fun c hc=>Nat.le_trans (x0.trans x2).size (hz.blk c hc).1,?_⟩
  rw [hsy]
  rw [show ints (nats (List.range i ++ M)) = ints (nats (List.range i)) ++ ints (nats M) by simp [ints,nats]]
  exact ho5.mono (Nat.zero_le _)
theorem wI (t:Str) (w:World):Cal Tryz.prog n8 #[sv t] w fun r w'=>Ext w w' ∧ SlN w' r (sysT t):=
 (tB t w).mono fun _ _ h=>⟨h.1,h.2.sl⟩
end Go.Proofs.YtbfpohbmgjcjmaaGreatDoor

namespace Go.Vc
section
universe u
variable {α:Type u} {enc:α → Value} {P:Program}
structure Turn (lo:Nat) (e:TypeId) (enc:α → Value) (v:Value) (w w':World) (L':List α):Prop where
 ow:Ow lo e w' v (L'.map enc)
 ch:Ch (fun c=>v.ownBlock = some c) w w'
theorem Turn.refl {lo:Nat} {e:TypeId} {v:Value} {w:World} {L:List α} (h:Ow lo e w v (L.map enc)):Turn lo e enc v w w L:=⟨h,(Ext.refl w).ch⟩
theorem Turn.ext {lo:Nat} {e:TypeId} {v:Value} {w w' w'':World} {L:List α} (h:Turn lo e enc v w w' L) (k:Ext w' w''):Turn lo e enc v w w'' L:=
 ⟨h.ow.ext k,h.ch.trans (k.ch (S:=fun _=>False)) fun _ e=>e.elim⟩
theorem Turn.trans {lo:Nat} {e:TypeId} {v:Value} {w w' w'':World} {L L':List α} (h:Turn lo e enc v w w' L) (k:Turn lo e enc v w' w'' L'):Turn lo e enc v w w'' L':=
 ⟨k.ow,h.ch.trans k.ch fun _ e=>.inl e⟩
theorem iRdO [Inhabited α] {lo:Nat} {e:TypeId} {w:World} {v:Value} {L:List α} {z:Int} {j:Nat} {k:IntKind} {K:Value → Prop} (hs:Ow lo e w v (L.map enc)) (hz:z = (j:Int)) (hj:j < L.length) (h:K (enc (gt L j))):xIa 1 v (.int k z) fun p=>xLd w p K:=by
 subst hz
 refine iIaOw hs (by omega) (by rw [List.length_map];omega) fun b o _ _ _ hc _ _=>iLd (hc.trans ?_) h
 rw [Int.toNat_natCast,gt_eq hj]
 simp [hj]
theorem iWr2 {lo:Nat} {e:TypeId} {w:World} {v:Value} {L:List α} {z z':Int} {i j:Nat} {k k':IntKind} {x y:α} {K:World → Prop} (hE:∀ x,aF (enc x) = true) (hs:Ow lo e w v (L.map enc)) (hz:z = (i:Int)) (hz':z' = (j:Int)) (hi:i < L.length) (hj:j < L.length)
  (h:∀ w',Turn lo e enc v w w' ((L.set i x).set j y) → K w'):
  xIa 1 v (.int k z) fun p=>∀ w1,Ext w w1 → xSt w1 p (enc x) fun w2=>xIa 1 v (.int k' z') fun q=>∀ w3,Ext w2 w3 → xSt w3 q (enc y) fun w4=>∀ w5,Ext w4 w5 → K w5:=by
 subst hz
 subst hz'
 refine XC hs (by rw [List.length_map];exact hi) fun b hb H=>?_
 intro w1 h1
 obtain ⟨hc,hf,hset⟩:=H w1 _ rfl (hs.ext h1)
 refine iSt (hc.trans (List.getElem?_eq_getElem (by rw [List.length_map];exact hi))) hf (hE x) ?_
 have hs2:=hset (enc x)
 have hc2:Ch (fun c=>v.ownBlock = some c) w (w1.setCell ⟨b,i,none⟩ (enc x)):=(h1.ch (S:=fun c=>v.ownBlock = some c)).trans ((Upd.setCell w1 b i _).ch (S:=fun c=>v.ownBlock = some c) hb) fun _ e=>.inl e
 refine XC hs2 (by rw [List.length_set,List.length_map];exact hj) fun b' hb' H'=>?_
 intro w3 h3
 obtain ⟨hc3,hf3,hset3⟩:=H' w3 _ rfl (hs2.ext h3)
 refine iSt (hc3.trans (List.getElem?_eq_getElem (by rw [List.length_set,List.length_map];exact hj))) hf3 (hE y) ?_
 intro w5 h5
 refine h w5 (Turn.ext ⟨?_,?_⟩ h5)
 ·have:=hset3 (enc y)
  rwa [← List.map_set,← List.map_set] at this
 ·exact (hc2.trans (h3.ch (S:=fun c=>v.ownBlock = some c)) fun _ e=>.inl e).trans ((Upd.setCell w3 b' j _).ch (S:=fun c=>v.ownBlock = some c) hb') fun _ e=>.inl e
end
section
variable {P:Program} {w:World} {lo:Nat} {e:TypeId}
theorem Ow.open {v:Value} {xs:List Value} (hs:Ow lo e w v xs) (hne:xs ≠ []):∃ g cap,v = .slice (some ⟨g,0,none⟩) xs.length cap ∧ xs.length ≤ cap ∧ cap ≤ 9223372036854775807:=by
 obtain ⟨_,⟨_,h0⟩ | ⟨g,cap,cur,hv,_,_,h1,h2,_⟩⟩:=hs
 ·exact absurd (List.length_eq_zero_iff.1 h0) hne
 ·exact ⟨g,cap,hv,h1,h2⟩
theorem Ow.at {g n cap:Nat} {xs:List Value} (hs:Ow lo e w (.slice (some ⟨g,0,none⟩) n cap) xs) (hn:xs.length = n) {j:Nat} (hj:j < n):w.cell? ⟨g,j,none⟩ = xs[j]?:=by
 have h:w.ownsRow lo e 1 (.slice (some ⟨g,0,none⟩) n cap) n xs:=by unfold Ow at hs;rw [hn] at hs;exact hs
 exact h.cellAt j (by omega)
theorem P6 {g n cap k:Nat} {ki:IntKind} {K:Value → Prop} (hk:k < n) (hc:n ≤ cap) (h:K (.slice (some ⟨g,k,none⟩) (n - k) (cap - k))):xSl 1 (.slice (some ⟨g,0,none⟩) n cap) (some (.int ki (k:Int))) none K:=by
 refine ⟨_,_,_,k,n,rfl,rfl,⟨ki,rfl⟩,by omega,hc,?_⟩
 rw [if_neg (by omega),Option.map_some,bF,Nat.zero_add,Nat.mul_one]
 exact h
theorem U5 {g n cap k:Nat} {ki:IntKind} {K:Value → Prop} (hk:k ≤ n) (hc:n ≤ cap) (h:K (.slice (some ⟨g,0,none⟩) k cap)):xSl 1 (.slice (some ⟨g,0,none⟩) n cap) none (some (.int ki (k:Int))) K:=by
 refine ⟨_,_,_,0,k,rfl,⟨ki,rfl⟩,rfl,Nat.zero_le _,by omega,?_⟩
 have e:(if cap = 0 then some (⟨g,0,none⟩:Addr) else (some (⟨g,0,none⟩:Addr)).map (·.add (0 * 1))) = some ⟨g,0,none⟩:=by
  split
  ·rfl
  ·simp [Addr.add]
 rw [e,Nat.sub_zero,Nat.sub_zero]
 exact h
theorem iClr {t ty:TypeId} {z:Value} {bytes g n cap k:Nat} {xs:List Value} {K:Value → World → Prop} (ht:P.underlying t = some (.slice e)) (hi:(P.info? e).map (fun i=>(i.zero,i.size,i.bytes)) = some (some z,1,bytes)) (hz:aF z = true)
  (hs:Ow lo e w (.slice (some ⟨g,0,none⟩) n cap) xs) (hn:xs.length = n) (hk:k < n) (h:∀ w',Ow lo e w' (.slice (some ⟨g,0,none⟩) k cap) (xs.take k) → Ch (fun c=>c = g) w w' → K (.tuple #[]) w'):
  xOp P (Builtin.clear_ #[t] ty #[.slice (some ⟨g,k,none⟩) (n - k) (cap - k)]) w K:=by
 obtain ⟨i,hi,h3⟩:=Option.map_eq_some_iff.1 hi
 simp only [Prod.mk.injEq] at h3
 obtain ⟨hz0,-,-⟩:=h3
 obtain ⟨-,⟨hv,-⟩ | ⟨g',cap',cur,hv,hg,hh,h1,h2,h3,h4⟩⟩:=hs
 ·cases hv
 ·injection hv with e1 e2 e3
  injection e1 with e1
  injection e1 with e1
  subst e1
  subst e3
  rw [hn] at h1 h4
  rw [Nat.mul_one] at h3 h4
  have hzc:(Builtin.zeroCells z.cells (n - k)).toList = List.replicate (n - k) z:=by
   rw [aH hz]
   simp [Builtin.zeroCells]
   apply List.ext_getElem
   ·simp
   ·intro i h1 h2
    simp [Nat.mod_one]
  have hrun:=run_storeCells_at P g k e (List.replicate (n - k) z) 0 cur w hh (by rw [List.length_replicate];omega) (fun v hv=>kJ (by rw [List.eq_of_mem_replicate hv];exact hz))
  refine ⟨_,_,?_,h (w.setRow g (cur.toList.take (k + 0) ++ List.replicate (n - k) z ++ cur.toList.drop (k + 0 + (List.replicate (n - k) z).length)).toArray) ?_ ?_⟩
  ·obtain ⟨m,hm⟩:∃ m,n - k = m + 1:=⟨n - k - 1,by omega⟩
   rw [hm] at hrun hzc ⊢
   simp [Builtin.clear_,run_underlying ht,zeroValue,kE hi,hz0,hzc,hrun]
  ·refine ⟨by simp,.inr ⟨g,cap,_,?_,hg,setRow_heap w g cur _ e (0,0) hh,by rw [List.length_take];omega,h2,?_,?_⟩⟩
   ·rw [List.length_take,hn,Nat.min_eq_left (by omega)]
   ·simp;omega
   ·rw [List.length_take,hn,Nat.min_eq_left (by omega),Nat.mul_one,Nat.add_zero,List.take_append_of_le_length (by simp;omega),List.take_append_of_le_length (by simp;omega),List.take_take,Nat.min_self,← h4,List.take_take,Nat.min_eq_left (by omega)]
  ·exact ⟨rfl,rfl,rfl,by rw [setRow_size];exact Nat.le_refl _,fun c _ hc=>setRow_other w g c _ hc⟩
end
end Go.Vc

namespace Go.Proofs.YtbfpohbmgjcjmaaGreatDoor
open Go.Vc
theorem IA (a:Str) (w:World):Ret Tryz.prog wO #[sv a] w (.bool false):=by
 apply JT;unfold uY
 refine iNeT ?_
 rw [show decide (¬ a = a) = false by simp]
 exact ⟨by first | trivial | rfl,Ext.refl _⟩
theorem aP (a b:Str) (w:World):Ret Tryz.prog yD #[sv a,sv b] w (.bool (ltS a b)):=by
 apply KN;unfold xG
 refine iJnB (ltS a b) w (fun J hJ=>?_) (fun w4 h4=>?_)
 ·refine iRet (IA a w) fun w3 h3=>?_
  refine iCndF rfl ?_
  refine iLtT ?_
  exact hJ w3 h3
 ·intro _
  simp only [gx]
  exact ⟨by first | trivial | rfl,h4⟩
theorem lT {lo:Nat} {w:World} {v:Value} {L:List Str} {a b:Nat} (hs:Ow lo aD w v (strs L)) (hab:a ≤ b) (hb:b ≤ L.length) (hL:L.length ≤ 1152921504606846976):
  Cal Tryz.prog eO #[v,.int .i64 (a:Int),.int .i64 (b:Int)] w fun _ w'=>∃ L',Turn lo aD sv v w w' L' ∧ SwR a b L L' ∧ Srt ltS a b L':=by
 apply mP;unfold eW
 (refine iAdd (by omega) ?_)
 refine iLp (fun i:Nat=>[.int .i64 (i:Int)]) (fun i w'=>a + 1 ≤ i ∧ i ≤ b + 1 ∧ ∃ L',Turn lo aD sv v w w' L' ∧ SwR a b L L' ∧ Srt ltS a i L') (fun i=>b + 1 - i) (a + 1) (by simp) ⟨Nat.le_refl _,by omega,L,Turn.refl hs,.refl,Srt.short (Nat.le_refl _)⟩ ?_
 rintro i w2 Kn ⟨hi,hib,L1,ht1,hw1,hs1⟩ hKn
 intro _
 simp only [gx]
 refine iLt ?_
 refine iCndP (fun h=>?_) (fun h=>?_)
 ·have hl1:=hw1.len
  refine iLp (fun j:Nat=>[.int .i64 (j:Int)]) (fun j w'=>a ≤ j ∧ j ≤ i ∧ ∃ L',Turn lo aD sv v w w' L' ∧ SwR a b L L' ∧ Ins ltS a i j L') (fun j=>j) i rfl ⟨by omega,Nat.le_refl _,L1,ht1,hw1,Ins.init hs1⟩ ?_
  rintro j w4 Kn2 ⟨haj,hji,L2,ht2,hw2,hin⟩ hKn2
  have hl2:=hw2.len
  intro _
  simp only [gx]
  refine iJnB (decide (a < j) && ltS (gt L2 j) (gt L2 (j - 1))) w4 (fun J hJ=>?_) (fun w6 h6=>?_)
  ·refine iLt ?_
   refine iCndP (fun h5=>?_) (fun h5=>?_)
   ·rw [decide_eq_true (show a < j by omega),Bool.true_and] at hJ
    refine iRdO (j:=j) ht2.ow rfl (by omega) ?_
    (refine iSub (by omega) ?_)
    refine iRdO (j:=j - 1) ht2.ow (by omega) (by omega) ?_
    exact iRetQ (fun w' _=>aP _ _ w') hJ
   ·rw [decide_eq_false (show ¬ a < j by omega),Bool.false_and] at hJ
    exact hJ
  ·intro _
   simp only [gx]
   have ht6:=ht2.ext h6
   cases hc:decide (a < j) && ltS (gt L2 j) (gt L2 (j - 1))
   ·refine iCndF rfl ?_
    (refine iAdd (by omega) ?_)
    refine hKn (i + 1) _ ⟨by omega,by omega,L2,ht6,hw2,hin.done ordrS ?_ hji⟩ (by omega)
    rw [Bool.and_eq_false_iff,decide_eq_false_iff_not] at hc
    rcases hc with hc | hc
    ·exact .inl (by omega)
    ·rcases Nat.lt_or_ge a j with h' | h'
     ·exact .inr ⟨h',hc⟩
     ·exact .inl h'
   ·rw [Bool.and_eq_true,decide_eq_true_eq] at hc
    refine iCndT rfl ?_
    (refine iSub (by omega) ?_;refine iSub (by omega) ?_)
    refine iRdO (j:=j - 1) ht6.ow (by omega) (by omega) ?_
    refine iRdO (j:=j) ht6.ow rfl (by omega) ?_
    refine iWr2 (i:=j) (j:=j - 1) (fun _=>rfl) ht6.ow rfl (by omega) (by omega) (by omega) fun w13 h13=>?_
    (refine iSub (by omega) ?_)
    rw [show (j:Int) - 1 = ((j - 1:Nat):Int) by omega]
    exact hKn2 (j - 1) _ ⟨by omega,by omega,sw L2 j (j - 1),ht6.trans h13,.step hw2 (by omega) (by omega) (by omega) (by omega) hb,hin.swap ordrS hc.1 hji (by omega) hc.2⟩ (by omega)
 ·exact ⟨L1,ht1,hw1,hs1.mono (Nat.le_refl _) (by omega)⟩
theorem mM {lo:Nat} {w:World} {v:Value} {L:List Str} {a b:Nat} (hs:Ow lo aD w v (strs L)) (hab:a ≤ b) (hb:b ≤ L.length) (hL:L.length ≤ 1152921504606846976):
  Cal Tryz.prog fJ #[v,.int .i64 (a:Int),.int .i64 (b:Int)] w fun _ w'=>∃ L',Turn lo aD sv v w w' L' ∧ SwR a b L L':=by
 apply mZ;unfold eX
 (refine iSub (by omega) ?_)
 refine iLp (fun s:Nat × Int=>[.int .i64 (s.1:Int),.int .i64 s.2]) (fun s w'=>a ≤ s.1 ∧ s.1 ≤ b ∧ -1 ≤ s.2 ∧ s.2 < b ∧ (b:Int) - s.2 ≤ s.1 - a + 1 ∧ ∃ L',Turn lo aD sv v w w' L' ∧ SwR a b L L') (fun s=>b - s.1) (a,(b:Int) - 1) rfl ⟨Nat.le_refl _,hab,by show -1 ≤ (b:Int) - 1;omega,by show (b:Int) - 1 < b;omega,by show (b:Int) - ((b:Int) - 1) ≤ a - a + 1;omega,L,Turn.refl hs,.refl⟩ ?_
 rintro ⟨i,j⟩ w2 Kn ⟨hi,hib,hj,hjb,hij,L1,ht1,hw1⟩ hKn
 have hi:a ≤ i:=hi
 have hib:i ≤ b:=hib
 have hj:-1 ≤ j:=hj
 have hjb:j < b:=hjb
 have hij:(b:Int) - j ≤ i - a + 1:=hij
 have hl1:=hw1.len
 intro _
 simp only [gx]
 refine iLt ?_
 refine iCndP (fun h=>?_) (fun h=>?_)
 ·refine iRdO (j:=j.toNat) ht1.ow (by omega) (by omega) ?_
  refine iRdO (j:=i) ht1.ow rfl (by omega) ?_
  refine iWr2 (i:=i) (j:=j.toNat) (fun _=>rfl) ht1.ow rfl (by omega) (by omega) (by omega) fun w7 h7=>?_
  (refine iAdd (by omega) ?_;refine iSub (by omega) ?_)
  exact hKn (i + 1,j - 1) _ ⟨by show a ≤ i + 1;omega,by show i + 1 ≤ b;omega,by show -1 ≤ j - 1;omega,by show j - 1 < b;omega,by show (b:Int) - (j - 1) ≤ ((i + 1:Nat):Int) - a + 1;omega,sw L1 i j.toNat,ht1.trans h7,.step hw1 hi (by omega) (by omega) (by omega) hb⟩ (by show b - (i + 1) < b - i;omega)
 ·exact ⟨L1,ht1,hw1⟩
theorem gT {lo0:Nat} {w:World} {v:Value} {L:List Str} {lo hi first:Nat} (hs:Ow lo0 aD w v (strs L)) (hlo:lo ≤ hi) (hb:first + hi ≤ L.length) (hL:L.length ≤ 1152921504606846976) (hh:Heap ltS first (lo + 1) hi L):
  Cal Tryz.prog g6 #[v,.int .i64 (lo:Int),.int .i64 (hi:Int),.int .i64 (first:Int)] w fun _ w'=>∃ L',Turn lo0 aD sv v w w' L' ∧ SwR (first + lo) (first + hi) L L' ∧ Heap ltS first lo hi L':=by
 apply qV;unfold g5
 refine iLp (fun r:Nat=>[.int .i64 (r:Int)]) (fun r w'=>lo ≤ r ∧ r ≤ hi ∧ ∃ L',Turn lo0 aD sv v w w' L' ∧ SwR (first + lo) (first + hi) L L' ∧ Sift ltS first lo hi r L') (fun r=>hi - r) lo rfl ⟨Nat.le_refl _,hlo,L,Turn.refl hs,.refl,Sift.init hh⟩ ?_
 rintro r w2 Kn ⟨hr,hrh,L1,ht1,hw1,hsf⟩ hKn
 have hl1:=hw1.len
 intro _
 simp only [gx]
 refine iMul (by omega) ?_
 (refine iAdd (by omega) ?_;(with_reducible refine iLe ?_))
 refine iCndP (fun h=>?_) (fun h=>?_)
 ·exact ⟨L1,ht1,hw1,hsf.done fun c hc hch=>by omega⟩
 ·have hlr:r < hi:=by omega
  refine iJnB (decide (2 * r + 2 < hi) && ltS (gt L1 (first + (2 * r + 1))) (gt L1 (first + (2 * r + 2)))) w2 (fun J hJ=>?_) (fun w4 h4=>?_)
  ·(refine iAdd (by omega) ?_;(with_reducible refine iLt ?_))
   refine iCndP (fun h5=>?_) (fun h5=>?_)
   ·rw [decide_eq_true (show 2 * r + 2 < hi by omega),Bool.true_and] at hJ
    (refine iAdd (by omega) ?_)
    refine iRdO (j:=first + (2 * r + 1)) ht1.ow (by omega) (by omega) ?_
    (refine iAdd (by omega) ?_;refine iAdd (by omega) ?_)
    refine iRdO (j:=first + (2 * r + 2)) ht1.ow (by omega) (by omega) ?_
    exact iRetQ (fun w' _=>aP _ _ w') hJ
   ·rw [decide_eq_false (show ¬ 2 * r + 2 < hi by omega),Bool.false_and] at hJ
    exact hJ
  ·intro _
   simp only [gx]
   have ht4:=ht1.ext h4
   refine iJnX (fun xs w8=>Ext w4 w8 ∧ ∃ c:Nat,xs = [.int .i64 (c:Int)] ∧ (c = 2 * r + 1 ∨ c = 2 * r + 2) ∧ c < hi ∧ ∀ d,(d = 2 * r + 1 ∨ d = 2 * r + 2) → d < hi → ltS (gt L1 (first + c)) (gt L1 (first + d)) = false) (fun J hJ=>?_) ?_
   ·cases hc:decide (2 * r + 2 < hi) && ltS (gt L1 (first + (2 * r + 1))) (gt L1 (first + (2 * r + 2)))
    ·refine iCndF rfl ?_
     refine hJ _ _ ⟨Ext.refl _,2 * r + 1,rfl,.inl rfl,by omega,fun d hd hdh=>?_⟩
     rcases hd with hd | hd
     ·subst hd;exact ordrS.rfl _
     ·subst hd;rw [decide_eq_true hdh,Bool.true_and] at hc;exact hc
    ·rw [Bool.and_eq_true,decide_eq_true_eq] at hc
     refine iCndT rfl ?_
     (refine iAdd (by omega) ?_)
     refine hJ _ _ ⟨Ext.refl _,2 * r + 2,rfl,.inr rfl,hc.1,fun d hd hdh=>?_⟩
     rcases hd with hd | hd
     ·subst hd;exact ordrS.asym hc.2
     ·subst hd;exact ordrS.rfl _
   ·rintro xs w8 ⟨h8,c,rfl,hc,hch,hmax⟩
    intro _
    simp only [gx]
    have ht8:=ht4.ext h8
    (refine iAdd (by omega) ?_)
    refine iRdO (j:=first + r) ht8.ow (by omega) (by omega) ?_
    (refine iAdd (by omega) ?_)
    refine iRdO (j:=first + c) ht8.ow (by omega) (by omega) ?_
    refine iRetQ (fun w' _=>aP _ _ w') ?_
    refine iNot ?_
    intro w9 h9
    have ht9:=ht8.ext h9
    refine iCnd (fun h5=>?_) (fun h5=>?_)
    ·refine ⟨L1,ht9,hw1,hsf.done fun d hd hdh=>?_⟩
     have h5:ltS (gt L1 (first + r)) (gt L1 (first + c)) = false:=by simpa using h5
     exact ordrS.tr (hmax d hd hdh) h5
    ·have h5:ltS (gt L1 (first + r)) (gt L1 (first + c)) = true:=by simpa using h5
     (refine iAdd (by omega) ?_;refine iAdd (by omega) ?_;refine iAdd (by omega) ?_)
     refine iRdO (j:=first + c) ht9.ow (by omega) (by omega) ?_
     (refine iAdd (by omega) ?_)
     refine iRdO (j:=first + r) ht9.ow (by omega) (by omega) ?_
     refine iWr2 (i:=first + r) (j:=first + c) (fun _=>rfl) ht9.ow (by omega) (by omega) (by omega) (by omega) fun w14 h14=>?_
     exact hKn c _ ⟨by omega,by omega,sw L1 (first + r) (first + c),ht9.trans h14,.step hw1 (by omega) (by omega) (by omega) (by omega) (by omega),hsf.swap ordrS hr hc hch (by omega) h5 hmax⟩ (by omega)
theorem pS {lo:Nat} {w:World} {v:Value} {L:List Str} {a b:Nat} (hs:Ow lo aD w v (strs L)) (hab:a < b) (hb:b ≤ L.length) (hL:L.length ≤ 1152921504606846976):
  Cal Tryz.prog g7 #[v,.int .i64 (a:Int),.int .i64 (b:Int)] w fun _ w'=>∃ L',Turn lo aD sv v w w' L' ∧ SwR a b L L' ∧ Srt ltS a b L':=by
 apply qR;unfold g0
 obtain ⟨n,rfl⟩:∃ n,b = a + n:=⟨b - a,by omega⟩
 (refine iSub (by omega) ?_;refine iSub (by omega) ?_)
 refine iQuo (by omega) ?_
 refine iLp (fun s:Nat=>[.int .i64 ((s:Int) - 1)]) (fun s w'=>s ≤ n ∧ ∃ L',Turn lo aD sv v w w' L' ∧ SwR a (a + n) L L' ∧ Heap ltS a s n L') (fun s=>s) ((n - 1) / 2 + 1) (by congr 2;omega) ⟨by omega,L,Turn.refl hs,.refl,fun p c h1 h2 h3=>by omega⟩ ?_
 rintro s w2 Kn ⟨hsn,L1,ht1,hw1,hh⟩ hKn
 have hl1:=hw1.len
 intro _
 simp only [gx]
 refine iLe ?_
 refine iCndP (fun h=>?_) (fun h=>?_)
 ·rw [show (s:Int) - 1 = ((s - 1:Nat):Int) by omega,show ((a + n:Nat):Int) - a = (n:Int) by omega]
  refine iCall ?_
  refine (gT (lo:=s - 1) (hi:=n) (first:=a) ht1.ow (by omega) (by omega) (by omega) (by rw [show s - 1 + 1 = s by omega];exact hh)).mono fun _ w3 h3=>?_
  obtain ⟨L2,ht2,hw2,hh2⟩:=h3
  (refine iSub (by omega) ?_)
  exact hKn (s - 1) _ ⟨by omega,L2,ht1.trans ht2,hw1.trans (hw2.mono (by omega) (Nat.le_refl _) (by omega)),hh2⟩ (by omega)
 ·(refine iSub (by omega) ?_)
  have hs0:s = 0:=by omega
  subst hs0
  refine iLp (fun s:Nat=>[.int .i64 ((s:Int) - 1)]) (fun s w'=>s ≤ n ∧ ∃ L',Turn lo aD sv v w w' L' ∧ SwR a (a + n) L L' ∧ Heap ltS a 0 s L' ∧ (∀ p q,a ≤ p → p < q → a + s ≤ q → q < a + n → ltS (gt L' q) (gt L' p) = false)) (fun s=>s) n (by congr 2;omega) ⟨Nat.le_refl _,L1,ht1,hw1,hh,fun p q h1 h2 h3 h4=>by omega⟩ ?_
  rintro s w5 Kn5 ⟨hsn,L2,ht2,hw2,hh2,hpr⟩ hKn5
  have hl2:=hw2.len
  intro _
  simp only [gx]
  refine iLe ?_
  refine iCndP (fun h5=>?_) (fun h5=>?_)
  ·(refine iAdd (by omega) ?_;refine iAdd (by omega) ?_)
   refine iRdO (j:=a + (s - 1)) ht2.ow (by omega) (by omega) ?_
   refine iRdO (j:=a) ht2.ow rfl (by omega) ?_
   refine iWr2 (i:=a) (j:=a + (s - 1)) (fun _=>rfl) ht2.ow rfl (by omega) (by omega) (by omega) fun w10 h10=>?_
   rw [show (s:Int) - 1 = ((s - 1:Nat):Int) by omega]
   have e:∀ k,gt (sw L2 a (a + (s - 1))) k = if k = a + (s - 1) then gt L2 a else if k = a then gt L2 (a + (s - 1)) else gt L2 k:=gt_sw (by omega) (by omega)
   have hw3:SwR a (a + n) L2 (sw L2 a (a + (s - 1))):=.one (by omega) (by omega) (by omega) (by omega) (by omega)
   have htop:=Heap.top ordrS hh2
   refine iCall ?_
   refine (gT (L:=sw L2 a (a + (s - 1))) (lo:=0) (hi:=s - 1) (first:=a) h10.ow (by omega) (by rw [hw3.len];omega) (by rw [hw3.len];omega) (fun p c h1 h2 h3=>by
    rw [e,e,if_neg (by omega),if_neg (by omega),if_neg (by omega),if_neg (by omega)]
    exact hh2 p c (by omega) h2 (by omega))).mono fun _ w11 h11=>?_
   obtain ⟨L4,ht4,hw4,hh4⟩:=h11
   (refine iSub (by omega) ?_)
   refine hKn5 (s - 1) _ ⟨by omega,L4,(ht2.trans h10).trans ht4,(hw2.trans hw3).trans (hw4.mono (by omega) (by omega) (by rw [hw3.len];omega)),hh4,fun p q h1 h2 h3 h4=>?_⟩ (by omega)
   rw [hw4.out (k:=q) (by omega)]
   have main:∀ p,a ≤ p → p < q → ltS (gt (sw L2 a (a + (s - 1))) q) (gt (sw L2 a (a + (s - 1))) p) = false:=fun p h1 h2=>by
    rw [e,e]
    by_cases hq:q = a + (s - 1)
    ·rw [if_pos hq,if_neg (by omega)]
     split
     ·exact htop _ (by omega)
     ·obtain ⟨k,rfl⟩:∃ k,p = a + k:=⟨p - a,by omega⟩
      exact htop _ (by omega)
    ·rw [if_neg hq,if_neg (by omega)]
     split
     ·exact hpr a q (by omega) (by omega) (by omega) h4
     ·split
      ·exact hpr _ q (by omega) (by omega) (by omega) h4
      ·exact hpr p q h1 h2 (by omega) h4
   rcases Nat.lt_or_ge p (a + (s - 1)) with hp | hp
   ·exact hw4.all (p:=fun x=>ltS (gt (sw L2 a (a + (s - 1))) q) x = false) (fun k hk hk'=>main k (by omega) (by omega)) p (by omega) hp
   ·rw [hw4.out (k:=p) (by omega)];exact main p h1 h2
  ·exact ⟨L2,ht2,hw2,fun p q h1 h2 h3=>hpr p q h1 h2 (by omega) h3⟩
end Go.Proofs.YtbfpohbmgjcjmaaGreatDoor

namespace Go.Vc
def len8T:Str:=[0,1,2,2,3,3,3,3,4,4,4,4,4,4,4,4,5,5,5,5,5,5,5,5,5,5,5,5,5,5,5,5,6,6,6,6,6,6,6,6,6,6,6,6,6,6,6,6,6,6,6,6,6,6,6,6,6,6,6,6,6,6,6,6,
 7,7,7,7,7,7,7,7,7,7,7,7,7,7,7,7,7,7,7,7,7,7,7,7,7,7,7,7,7,7,7,7,7,7,7,7,7,7,7,7,7,7,7,7,7,7,7,7,7,7,7,7,7,7,7,7,7,7,7,7,7,7,7,7,
 8,8,8,8,8,8,8,8,8,8,8,8,8,8,8,8,8,8,8,8,8,8,8,8,8,8,8,8,8,8,8,8,8,8,8,8,8,8,8,8,8,8,8,8,8,8,8,8,8,8,8,8,8,8,8,8,8,8,8,8,8,8,8,8,
 8,8,8,8,8,8,8,8,8,8,8,8,8,8,8,8,8,8,8,8,8,8,8,8,8,8,8,8,8,8,8,8,8,8,8,8,8,8,8,8,8,8,8,8,8,8,8,8,8,8,8,8,8,8,8,8,8,8,8,8,8,8,8,8]
theorem YQ:∀ x:Fin 256,x.val < 2 ^ (len8T.getD x.val 0).toNat ∧ (1 ≤ x.val → 2 ^ (len8T.getD x.val 0).toNat ≤ 2 * x.val) ∧ (len8T.getD x.val 0).toNat ≤ 8:=by decide +kernel
theorem aAJ {a:Int} {m:Nat} {K:Value → Prop} (hm:m < 2 ^ 64) (h:∀ x:Nat,x ≤ m → K (.int .u64 (x:Int))):xBits iAnd .u64 (.int .u64 a) (.int .u64 (m:Int)) K:=by
 refine ⟨_,_,rfl,rfl,?_⟩
 have e:iAnd .u64 a (m:Int) = (((BitVec.ofInt 64 a &&& BitVec.ofInt 64 (m:Int)).toNat:Nat):Int):=by
  rw [show iAnd .u64 a (m:Int) = IntKind.u64.wrap ((BitVec.ofInt 64 a &&& BitVec.ofInt 64 (m:Int)).toNat:Nat) from rfl]
  exact IntWalk.u64_in _ (by have:=(BitVec.ofInt 64 a &&& BitVec.ofInt 64 (m:Int)).isLt;omega)
 rw [e]
 refine h _ ?_
 rw [BitVec.toNat_and,mE,BitVec.toNat_ofNat,Nat.mod_eq_of_lt (a:=m) (by omega)]
 exact Nat.and_le_right
theorem iStC {e:TypeId} {w:World} {b:Nat} {old v:Value} {K:World → Prop} (hb:Blk e w b [old]) (hv:aF v = true) (h:∀ w',Blk e w' b [v] → Ch (fun c=>c = b) w w' → K w'):xSt w (.pointer (some ⟨b,0,none⟩)) v K:=
 iStB hb (by simp) hv fun h2=>h _ h2 ((Upd.setCell w b 0 v).ch rfl)
theorem TM {a j:Nat} {K:Value → Prop} (hj:j ≤ 64) (h:K (.int .u64 ((a / 2 ^ j:Nat):Int))):xSh iShr .u64 (.int .u64 (a:Int)) (.int .u64 (j:Int)) K:=by
 refine ⟨_,_,_,rfl,rfl,by omega,?_⟩
 rw [show iShr .u64 (a:Int) (j:Int) = ((a / 2 ^ j:Nat):Int) by
  unfold iShr
  rw [Int.toNat_natCast,show IntKind.u64.bits = 64 from rfl,Nat.min_eq_left hj,Int.fdiv_eq_ediv_of_nonneg _ (Int.le_of_lt (Int.pow_pos (by omega)))]
  push_cast
  rfl]
 exact h
end Go.Vc
namespace Go.Proofs.YtbfpohbmgjcjmaaGreatDoor
open Go.Vc
set_option maxRecDepth 20000 in
theorem IC {n:Nat} (hn:n < 2 ^ 63) (w:World):Cal Tryz.prog oB #[.int .u64 (n:Int)] w fun r w'=>Ext w w' ∧ ∃ k:Nat,r = .int .i64 (k:Int) ∧ n < 2 ^ k ∧ (1 ≤ n → 2 ^ k ≤ 2 * n) ∧ k ≤ 64:=by
 apply xS;unfold nX
 -- at each join: what is left of n, and by how many bits it was shifted
 have stage:∀ {x m s:Nat},x = n / 2 ^ m → x / 2 ^ s = n / 2 ^ (m + s):=fun {x m s} h=>by rw [h,Nat.div_div_eq_div_mul,← Nat.pow_add]
 ((with_reducible refine iLe ?_))
 refine iJnX (fun xs w'=>Ext w w' ∧ ∃ x m:Nat,xs = [.int .u64 (x:Int),.int .i64 (m:Int)] ∧ x = n / 2 ^ m ∧ x < 2 ^ 32 ∧ (1 ≤ m → 1 ≤ x) ∧ m ≤ 32) (fun J hJ=>?_) ?_
 ·refine iCndP (fun h=>?_) (fun h=>?_)
  ·refine TM (j:=32) (by omega) ?_
   exact hJ _ _ ⟨Ext.refl _,_,32,rfl,rfl,by omega,by omega,by omega⟩
  ·exact hJ _ _ ⟨Ext.refl _,n,0,rfl,by simp,by omega,by omega,by omega⟩
 rintro xs w2 ⟨h2,x,m,rfl,hx,hx32,hm1,hm⟩
 intro _
 simp only [gx]
 ((with_reducible refine iLe ?_))
 refine iJnX (fun xs w'=>Ext w w' ∧ ∃ x m:Nat,xs = [.int .u64 (x:Int),.int .i64 (m:Int)] ∧ x = n / 2 ^ m ∧ x < 2 ^ 16 ∧ (1 ≤ m → 1 ≤ x) ∧ m ≤ 48) (fun J hJ=>?_) ?_
 ·refine iCndP (fun h=>?_) (fun h=>?_)
  ·refine TM (j:=16) (by omega) ?_
   (refine iAdd (by omega) ?_)
   exact hJ _ _ ⟨h2,_,m + 16,rfl,stage hx,by omega,by omega,by omega⟩
  ·exact hJ _ _ ⟨h2,x,m,rfl,hx,by omega,hm1,by omega⟩
 rintro xs w4 ⟨h4,x,m,rfl,hx,hx16,hm1,hm⟩
 intro _
 simp only [gx]
 ((with_reducible refine iLe ?_))
 refine iJnX (fun xs w'=>Ext w w' ∧ ∃ x m:Nat,xs = [.int .u64 (x:Int),.int .i64 (m:Int)] ∧ x = n / 2 ^ m ∧ x < 2 ^ 8 ∧ (1 ≤ m → 1 ≤ x) ∧ m ≤ 56) (fun J hJ=>?_) ?_
 ·refine iCndP (fun h=>?_) (fun h=>?_)
  ·refine TM (j:=8) (by omega) ?_
   (refine iAdd (by omega) ?_)
   exact hJ _ _ ⟨h4,_,m + 8,rfl,stage hx,by omega,by omega,by omega⟩
  ·exact hJ _ _ ⟨h4,x,m,rfl,hx,by omega,hm1,by omega⟩
 rintro xs w6 ⟨h6,x,m,rfl,hx,hx8,hm1,hm⟩
 intro _
 simp only [gx]
 obtain ⟨t1,t2,t3⟩:x < 2 ^ (len8T.getD x 0).toNat ∧ (1 ≤ x → 2 ^ (len8T.getD x 0).toNat ≤ 2 * x) ∧ (len8T.getD x 0).toNat ≤ 8:=YQ ⟨x,hx8⟩
 refine ⟨_,_,rfl,?_⟩
 rw [IntWalk.u8_in _ (by omega)]
 refine iIs (l:=len8T) (j:=x) (by show x < 256;omega) ?_
 refine D1 (by omega) ?_
 refine iAdd (by omega) ?_
 refine ⟨h6,m + (len8T.getD x 0).toNat,by first | rfl | (push_cast;rfl),?_,fun h1=>?_,by omega⟩
 ·have:=Nat.lt_div_mul_add (a:=n) (b:=2 ^ m) (Nat.two_pow_pos m)
  rw [← hx] at this
  have h3:(x + 1) * 2 ^ m ≤ 2 ^ (len8T.getD x 0).toNat * 2 ^ m:=Nat.mul_le_mul_right _ t1
  rw [Nat.pow_add,Nat.mul_comm (2 ^ m)]
  rw [Nat.add_mul] at h3
  omega
 ·rcases Nat.eq_zero_or_pos x with h0 | h0
  ·have hm0:m = 0:=by omega
   subst hm0
   simp at hx
   omega
  ·have h3:=Nat.mul_le_mul_left (2 ^ m) (t2 h0)
   have h4:2 ^ m * x ≤ n:=by rw [hx];exact Nat.mul_div_le n (2 ^ m)
   rw [Nat.pow_add]
   rw [Nat.mul_left_comm] at h3
   omega
theorem yC {n:Nat} (hn:n < 2 ^ 63) (w:World):Cal Tryz.prog rA #[.int .u64 (n:Int)] w fun r w'=>Ext w w' ∧ ∃ k:Nat,r = .int .i64 (k:Int) ∧ n < 2 ^ k ∧ (1 ≤ n → 2 ^ k ≤ 2 * n) ∧ k ≤ 64:=by
 apply BF;unfold qY
 exact iCall (IC hn w)
theorem zR {n:Nat} (h1:1 ≤ n) (hn:n ≤ 1152921504606846976) (w:World):Cal Tryz.prog nR #[.int .i64 (n:Int)] w fun r w'=>Ext w w' ∧ ∃ m:Nat,r = .int .u64 (m:Int) ∧ 1 ≤ m ∧ m ≤ 2 * n:=by
 apply AR;unfold nO
 refine C8 (by omega) ?_
 refine iCall ?_
 refine (yC (by omega) w).mono fun r w1 h=>?_
 obtain ⟨h1',k,rfl,hk1,hk2,hk3⟩:=h
 have hk:=hk2 h1
 refine ⟨_,_,_,rfl,rfl,by omega,?_⟩
 have e:iShl .u64 1 (k:Int) = ((2 ^ k:Nat):Int):=by
  rw [show iShl .u64 1 (k:Int) = IntKind.u64.wrap (1 * 2 ^ min (k:Int).toNat 64) from rfl,Int.toNat_natCast,Nat.min_eq_left hk3,Int.one_mul,show ((2:Int) ^ k) = ((2 ^ k:Nat):Int) by push_cast;rfl]
  exact IntWalk.u64_in _ (by omega)
 rw [e]
 exact ⟨h1',2 ^ k,rfl,Nat.two_pow_pos k,hk⟩
theorem AM {e:TypeId} {w:World} {b:Nat} {x:Int} (hb:Blk e w b [.int .u64 x]):Cal Tryz.prog pF #[.pointer (some ⟨b,0,none⟩)] w fun r w'=>∃ y:Int,r = .int .u64 y ∧ Blk e w' b [.int .u64 y] ∧ Ch (fun c=>c = b) w w':=by
 apply CJ;unfold oP
 ((with_reducible refine iNil ?_);refine iLdB (by assumption) (by first | rfl | simp) ?_;(with_reducible refine iNil ?_);refine iLdB (by assumption) (by first | rfl | simp) ?_)
 refine ⟨_,_,_,rfl,rfl,by omega,?_⟩
 refine ⟨_,_,rfl,rfl,?_⟩
 ((with_reducible refine iNil ?_))
 intro w1 h1
 refine iStC (hb.ext h1) rfl fun w2 hb2 h2=>?_
 intro w3 h3
 have hb3:=hb2.ext h3
 have c3:=aT ((h1.ch.trans h2 fun _ e=>.inl e)) h3
 clear hb2 h2
 ((with_reducible refine iNil ?_);refine iLdB (by assumption) (by first | rfl | simp) ?_;(with_reducible refine iNil ?_);refine iLdB (by assumption) (by first | rfl | simp) ?_)
 refine ⟨_,_,_,rfl,rfl,by omega,?_⟩
 refine ⟨_,_,rfl,rfl,?_⟩
 ((with_reducible refine iNil ?_))
 intro w4 h4
 refine iStC (hb3.ext h4) rfl fun w5 hb5 h5=>?_
 intro w6 h6
 have hb6:=hb5.ext h6
 have c6:=aT (aE (aT c3 h4) h5) h6
 clear hb5 hb3 hb c3
 ((with_reducible refine iNil ?_);refine iLdB (by assumption) (by first | rfl | simp) ?_;(with_reducible refine iNil ?_);refine iLdB (by assumption) (by first | rfl | simp) ?_)
 refine ⟨_,_,_,rfl,rfl,by omega,?_⟩
 refine ⟨_,_,rfl,rfl,?_⟩
 ((with_reducible refine iNil ?_))
 intro w7 h7
 refine iStC (hb6.ext h7) rfl fun w8 hb8 h8=>?_
 intro w9 h9
 have hb9:=hb8.ext h9
 have c9:=aT (aE (aT c6 h7) h8) h9
 clear hb8 hb6 c6
 ((with_reducible refine iNil ?_);refine iLdB (by assumption) (by first | rfl | simp) ?_)
 exact ⟨_,rfl,hb9,c9⟩
theorem lW {lo:Nat} {w:World} {v:Value} {L:List Str} {a b:Nat} (hs:Ow lo aD w v (strs L)) (hab:a ≤ b) (hb:b ≤ L.length) (hL:L.length ≤ 1152921504606846976):
  Cal Tryz.prog eQ #[v,.int .i64 (a:Int),.int .i64 (b:Int)] w fun _ w'=>∃ L',Turn lo aD sv v w w' L' ∧ SwR a b L L':=by
 apply mQ;unfold eR
 obtain ⟨n,rfl⟩:∃ n,b = a + n:=⟨b - a,by omega⟩
 refine iSub (by omega) ?_
 rw [show ((a + n:Nat):Int) - a = (n:Int) by omega]
 refine iLe ?_
 refine iCndP (fun h=>?_) (fun h=>?_)
 ·refine C8 (by omega) ?_
  refine iNew fun c w1 hc1 h1 hb1=>?_
  refine iStB hb1 (by simp [Value.cells]) rfl fun hb2=>?_
  have x2:Ext w (w1.setCell ⟨c,0,none⟩ (.int .u64 (n:Int))):=ZB h1 (by show w.heap.size ≤ c;omega) _
  refine iCall ?_
  refine (zR (by omega) (by omega) _).mono fun r w3 h3=>?_
  obtain ⟨h3,m,rfl,hm1,hm2⟩:=h3
  have hb3:=hb2.ext h3
  have hs3:=(hs.ext x2).ext h3
  have hne:v.ownBlock ≠ some c:=hs.lt (by omega)
  refine iQuo (by omega) ?_
  refine iMul (by omega) ?_
  refine iAdd (by omega) ?_
  refine iSub (by omega) ?_
  refine iLp (fun i:Nat=>[.int .i64 (i:Int)]) (fun i w'=>a + n / 4 * 2 - 1 ≤ i ∧ (∃ x,Blk 213 w' c [.int .u64 x]) ∧ ∃ L',Turn lo aD sv v w w' L' ∧ SwR a (a + n) L L') (fun i=>a + n - i) (a + n / 4 * 2 - 1) (by congr 2;omega)
   ⟨Nat.le_refl _,⟨_,hb3⟩,L,⟨hs3,((x2.trans h3).ch)⟩,.refl⟩ ?_
  rintro i w5 Kn ⟨hi,⟨x,hb5⟩,L1,ht1,hw1⟩ hKn
  have hl1:=hw1.len
  intro _
  simp only [gx]
  refine iQuo (by omega) ?_
  refine iMul (by omega) ?_
  refine iAdd (by omega) ?_
  refine iAdd (by omega) ?_
  refine iLe ?_
  refine iCndP (fun h5=>?_) (fun h5=>?_)
  ·refine iCall ?_
   refine (AM hb5).mono fun r w6 h6=>?_
   obtain ⟨y,rfl,hb6,hc6⟩:=h6
   have hs6:=ht1.ow.ch hc6 fun c' hc' e=>hne (e ▸ hc')
   refine ⟨_,_,rfl,rfl,?_⟩
   rw [show IntKind.u64.wrap ((m:Int) - 1) = ((m - 1:Nat):Int) by rw [IntWalk.u64_in _ (by omega)];omega]
   refine aAJ (by omega) fun x hx=>?_
   refine D1 (by omega) ?_
   refine iLe ?_
   refine iJnX (fun xs w8=>Ext w6 w8 ∧ ∃ z:Nat,xs = [.int .i64 (z:Int)] ∧ z < n) (fun J hJ=>?_) ?_
   ·refine iCndP (fun h7=>?_) (fun h7=>?_)
    ·refine iSub (by omega) ?_
     rw [show (x:Int) - n = ((x - n:Nat):Int) by omega]
     exact hJ _ _ ⟨Ext.refl _,x - n,rfl,by omega⟩
    ·exact hJ _ _ ⟨Ext.refl _,x,rfl,by omega⟩
   rintro xs w8 ⟨h8,z,rfl,hz⟩
   intro _
   simp only [gx]
   have hs8:=hs6.ext h8
   have hb8:=hb6.ext h8
   have hc8:=aT hc6 h8
   refine iAdd (by omega) ?_
   refine iAdd (by omega) ?_
   refine iRdO (j:=a + z) hs8 (by omega) (by omega) ?_
   refine iRdO (j:=i) hs8 rfl (by omega) ?_
   refine iWr2 (i:=i) (j:=a + z) (fun _=>rfl) hs8 rfl (by omega) (by omega) (by omega) fun w13 h13=>?_
   refine iAdd (by omega) ?_
   refine hKn (i + 1) _ ⟨by omega,⟨_,hb8.ch h13.ch fun e=>hne e⟩,sw L1 i (a + z),⟨h13.ow,?_⟩,.step hw1 (by omega) (by omega) (by omega) (by omega) hb⟩ (by omega)
   refine (ht1.ch.trans hc8 fun c' e=>.inr ?_).trans h13.ch fun _ e=>.inl e
   omega
  ·exact ⟨L1,ht1,hw1⟩
 ·exact ⟨L,Turn.refl hs,.refl⟩
end Go.Proofs.YtbfpohbmgjcjmaaGreatDoor

namespace Go.Proofs.YtbfpohbmgjcjmaaGreatDoor
open Go.Vc
theorem dR {lo:Nat} {e:TypeId} {w:World} {v:Value} {L:List Str} {i j c n:Nat} (hs:Ow lo aD w v (strs L)) (hi:i < L.length) (hj:j < L.length) (hb:Blk e w c [.int .i64 (n:Int)]) (hn:n ≤ 1000):
  Cal Tryz.prog jE #[v,.int .i64 (i:Int),.int .i64 (j:Int),.pointer (some ⟨c,0,none⟩)] w fun r w'=>∃ i' j' m:Nat,r = .tuple #[.int .i64 (i':Int),.int .i64 (j':Int)] ∧ ((i' = i ∧ j' = j) ∨ (i' = j ∧ j' = i)) ∧ m ≤ n + 1 ∧ Blk e w' c [.int .i64 (m:Int)] ∧ Ch (fun d=>d = c) w w':=by
 apply sD;unfold jA
 refine iRdO (j:=j) hs rfl hj ?_
 refine iRdO (j:=i) hs rfl hi ?_
 refine iRetQ (fun w' _=>aP _ _ w') ?_
 intro w1 h1
 have hb1:=hb.ext h1
 refine iCnd (fun h=>?_) (fun h=>?_)
 ·((with_reducible refine iNil ?_);refine iLdB (by assumption) (by first | rfl | simp) ?_;refine iAdd (by omega) ?_;(with_reducible refine iNil ?_))
  refine iStC hb1 rfl fun w2 hb2 hc2=>?_
  exact ⟨j,i,n + 1,rfl,.inr ⟨rfl,rfl⟩,Nat.le_refl _,hb2,(h1.ch.trans hc2 fun _ e=>.inl e)⟩
 ·exact ⟨i,j,n,rfl,.inl ⟨rfl,rfl⟩,by omega,hb1,h1.ch⟩
theorem iF {lo:Nat} {e:TypeId} {w:World} {v:Value} {L:List Str} {i j k c n:Nat} (hs:Ow lo aD w v (strs L)) (hne:v.ownBlock ≠ some c) (hi:i < L.length) (hj:j < L.length) (hk:k < L.length) (hb:Blk e w c [.int .i64 (n:Int)]) (hn:n ≤ 900):
  Cal Tryz.prog i7 #[v,.int .i64 (i:Int),.int .i64 (j:Int),.int .i64 (k:Int),.pointer (some ⟨c,0,none⟩)] w fun r w'=>∃ t m:Nat,r = .int .i64 (t:Int) ∧ (t = i ∨ t = j ∨ t = k) ∧ m ≤ n + 3 ∧ Blk e w' c [.int .i64 (m:Int)] ∧ Ch (fun d=>d = c) w w':=by
 apply sH;unfold i8
 refine iCall ?_
 refine (dR hs hi hj hb (by omega)).mono fun r w1 h1=>?_
 obtain ⟨i1,j1,n1,rfl,h1,hn1,hb1,hc1⟩:=h1
 have hs1:=hs.ch hc1 fun d hd e=>hne (e ▸ hd)
 ((with_reducible refine iE20 ?_;refine iE21 ?_))
 refine iCall ?_
 refine (dR (i:=j1) hs1 (by rcases h1 with h | h <;> omega) hk hb1 (by omega)).mono fun r w2 h2=>?_
 obtain ⟨j2,k2,n2,rfl,h2,hn2,hb2,hc2⟩:=h2
 have hs2:=hs1.ch hc2 fun d hd e=>hne (e ▸ hd)
 ((with_reducible refine iE20 ?_;refine iE21 ?_))
 refine iCall ?_
 refine (dR (i:=i1) (j:=j2) hs2 (by rcases h1 with h | h <;> omega) (by rcases h1 with h | h <;> rcases h2 with h' | h' <;> omega) hb2 (by omega)).mono fun r w3 h3=>?_
 obtain ⟨i3,j3,n3,rfl,h3,hn3,hb3,hc3⟩:=h3
 ((with_reducible refine iE20 ?_;refine iE21 ?_))
 exact ⟨j3,n3,rfl,by rcases h1 with h | h <;> rcases h2 with h' | h' <;> rcases h3 with h'' | h'' <;> omega,by omega,hb3,aE (aE hc1 hc2) hc3⟩
theorem b8 {lo:Nat} {e:TypeId} {w:World} {v:Value} {L:List Str} {i c n:Nat} (hs:Ow lo aD w v (strs L)) (hne:v.ownBlock ≠ some c) (h1:1 ≤ i) (hi:i + 1 < L.length) (hL:L.length ≤ 1152921504606846976) (hb:Blk e w c [.int .i64 (n:Int)]) (hn:n ≤ 900):
  Cal Tryz.prog eI #[v,.int .i64 (i:Int),.pointer (some ⟨c,0,none⟩)] w fun r w'=>∃ t m:Nat,r = .int .i64 (t:Int) ∧ (t = i - 1 ∨ t = i ∨ t = i + 1) ∧ m ≤ n + 3 ∧ Blk e w' c [.int .i64 (m:Int)] ∧ Ch (fun d=>d = c) w w':=by
 apply lV;unfold eK
 (refine iSub (by omega) ?_;refine iAdd (by omega) ?_)
 rw [show (i:Int) - 1 = ((i - 1:Nat):Int) by omega]
 refine iCall ?_
 exact iF (i:=i - 1) (j:=i) (k:=i + 1) hs hne (by omega) (by omega) hi hb hn
theorem nH {lo:Nat} {w:World} {v:Value} {L:List Str} {a b:Nat} (hs:Ow lo aD w v (strs L)) (hab:a + 8 ≤ b) (hb:b ≤ L.length) (hL:L.length ≤ 1152921504606846976):
  Cal Tryz.prog fU #[v,.int .i64 (a:Int),.int .i64 (b:Int)] w fun r w'=>Ext w w' ∧ ∃ t:Nat,∃ x:Int,r = .tuple #[.int .i64 (t:Int),.int .i64 x] ∧ a ≤ t ∧ t < b:=by
 apply oD;unfold fN
 obtain ⟨n,rfl⟩:∃ n,b = a + n:=⟨b - a,by omega⟩
 refine iSub (by omega) ?_
 rw [show ((a + n:Nat):Int) - a = (n:Int) by omega]
 refine iNew fun c w1 hc1 h1 hb1=>?_
 have hne:v.ownBlock ≠ some c:=hs.lt (by omega)
 have hs1:=hs.ext h1
 have new:∀ {w':World},Ch (fun d=>d = c) w1 w' → Ext w w':=fun {w'} h=>h1.thenCh h fun d e=>by omega
 refine iQuo (by omega) ?_
 refine iMul (by omega) ?_
 refine iAdd (by omega) ?_
 refine iQuo (by omega) ?_
 refine iMul (by omega) ?_
 refine iAdd (by omega) ?_
 refine iQuo (by omega) ?_
 refine iMul (by omega) ?_
 refine iAdd (by omega) ?_
 refine iLe ?_
 rw [show (a:Int) + (n:Int) / 4 * 1 = ((a + n / 4 * 1:Nat):Int) by omega,show (a:Int) + (n:Int) / 4 * 2 = ((a + n / 4 * 2:Nat):Int) by omega,show (a:Int) + (n:Int) / 4 * 3 = ((a + n / 4 * 3:Nat):Int) by omega]
 refine iJnX (fun xs w'=>∃ t m:Nat,xs = [.int .i64 (t:Int)] ∧ a ≤ t ∧ t < a + n ∧ Blk 3 w' c [.int .i64 (m:Int)] ∧ Ch (fun d=>d = c) w1 w') (fun J hJ=>?_) ?_
 ·refine iCndP (fun h=>?_) (fun h=>?_)
  ·refine iLe ?_
   refine iJnX (fun xs w'=>∃ i j k m:Nat,xs = [.int .i64 (i:Int),.int .i64 (j:Int),.int .i64 (k:Int)] ∧ a ≤ i ∧ i < a + n ∧ a ≤ j ∧ j < a + n ∧ a ≤ k ∧ k < a + n ∧ m ≤ 9 ∧ Blk 3 w' c [.int .i64 (m:Int)] ∧ Ch (fun d=>d = c) w1 w') (fun J' hJ'=>?_) ?_
   ·refine iCndP (fun h5=>?_) (fun h5=>?_)
    ·refine iCall ?_
     refine (b8 (n:=0) hs1 hne (by omega) (by omega) hL hb1 (by omega)).mono fun r w2 h2=>?_
     obtain ⟨i,m1,rfl,hi,hm1,hb2,hc2⟩:=h2
     have hs2:=hs1.ch hc2 fun d hd e=>hne (e ▸ hd)
     refine iCall ?_
     refine (b8 hs2 hne (by omega) (by omega) hL hb2 (by omega)).mono fun r w3 h3=>?_
     obtain ⟨j,m2,rfl,hj,hm2,hb3,hc3⟩:=h3
     have hs3:=hs2.ch hc3 fun d hd e=>hne (e ▸ hd)
     refine iCall ?_
     refine (b8 hs3 hne (by omega) (by omega) hL hb3 (by omega)).mono fun r w4 h4=>?_
     obtain ⟨k,m3,rfl,hk,hm3,hb4,hc4⟩:=h4
     exact hJ' _ _ ⟨i,j,k,m3,rfl,by omega,by omega,by omega,by omega,by omega,by omega,by omega,hb4,aE (aE hc2 hc3) hc4⟩
    ·exact hJ' _ _ ⟨_,_,_,0,rfl,by omega,by omega,by omega,by omega,by omega,by omega,by omega,hb1,(Ext.refl _).ch⟩
   rintro xs w5 ⟨i,j,k,m,rfl,h11,h12,h21,h22,h31,h32,hm,hb5,hc5⟩
   intro _
   simp only [gx]
   have hs5:=hs1.ch hc5 fun d hd e=>hne (e ▸ hd)
   refine iCall ?_
   refine (iF hs5 hne (i:=i) (j:=j) (k:=k) (by omega) (by omega) (by omega) hb5 (by omega)).mono fun r w6 h6=>?_
   obtain ⟨t,m',rfl,ht,hm',hb6,hc6⟩:=h6
   exact hJ _ _ ⟨t,m',rfl,by omega,by omega,hb6,aE hc5 hc6⟩
  ·omega
 rintro xs w3 ⟨t,m,rfl,ht1,ht2,hb3,hc3⟩
 intro _
 simp only [gx]
 (refine iLdB (by assumption) (by first | rfl | simp) ?_;(with_reducible refine iEq ?_))
 refine iCndP (fun h=>?_) (fun h=>?_)
 ·exact ⟨new hc3,t,1,rfl,ht1,ht2⟩
 ·((with_reducible refine iEq ?_))
  refine iCndP (fun h=>?_) (fun h=>?_)
  ·exact ⟨new hc3,t,2,rfl,ht1,ht2⟩
  ·exact ⟨new hc3,t,0,rfl,ht1,ht2⟩
theorem lL {lo:Nat} {w:World} {v:Value} {L:List Str} {a b t:Nat} (hs:Ow lo aD w v (strs L)) (hat:a ≤ t) (htb:t < b) (hb:b ≤ L.length) (hL:L.length ≤ 1152921504606846976):
  Cal Tryz.prog eJ #[v,.int .i64 (a:Int),.int .i64 (b:Int),.int .i64 (t:Int)] w fun r w'=>∃ L':List Str,∃ m:Nat,r = .int .i64 (m:Int) ∧ Turn lo aD sv v w w' L' ∧ SwR a b L L' ∧ a < m ∧ m ≤ b ∧ (∀ k,a ≤ k → k < m → ltS (gt L t) (gt L' k) = false):=by
 apply lU;unfold eH
 refine iRdO (j:=t) hs rfl (by omega) ?_
 refine iRdO (j:=a) hs rfl (by omega) ?_
 refine iWr2 (i:=a) (j:=t) (fun _=>rfl) hs rfl rfl (by omega) (by omega) fun w5 h5=>?_
 have e0:gt (sw L a t) a = gt L t:=by rw [gt_sw (by omega) (by omega)];split <;> simp_all
 (refine iAdd (by omega) ?_;refine iSub (by omega) ?_)
 refine iLp (fun s:Nat × Int=>[.int .i64 (s.1:Int),.int .i64 s.2]) (fun s w'=>a + 1 ≤ s.1 ∧ s.1 ≤ b ∧ (s.1:Int) - 1 ≤ s.2 + 1 ∧ s.2 < b ∧ ∃ L',Turn lo aD sv v w w' L' ∧ SwR a b L L' ∧ gt L' a = gt L t ∧ ∀ k,a ≤ k → k < s.1 → ltS (gt L t) (gt L' k) = false) (fun s=>b - s.1) (a + 1,(b:Int) - 1) rfl
  ⟨Nat.le_refl _,by show a + 1 ≤ b;omega,by show ((a + 1:Nat):Int) - 1 ≤ (b:Int) - 1 + 1;omega,by show (b:Int) - 1 < b;omega,sw L a t,h5,.one (Nat.le_refl _) (by omega) hat htb hb,e0,fun k h1 h2=>by have h2:k < a + 1:=h2;rw [show k = a by omega,e0];exact ordrS.rfl _⟩ ?_
 rintro ⟨i0,j0⟩ w7 Kn ⟨hi0,hib0,hij0,hjb0,L1,ht1,hw1,he1,hq1⟩ hKn
 have hi0:a + 1 ≤ i0:=hi0
 have hib0:i0 ≤ b:=hib0
 have hij0:(i0:Int) - 1 ≤ j0 + 1:=hij0
 have hjb0:j0 < b:=hjb0
 have hq1:∀ k,a ≤ k → k < i0 → ltS (gt L t) (gt L1 k) = false:=hq1
 have hl1:=hw1.len
 intro _
 simp only [gx]
 refine iLp (fun i:Nat=>[.int .i64 (i:Int)]) (fun i w'=>i0 ≤ i ∧ i ≤ b ∧ (i:Int) - 1 ≤ j0 + 1 ∧ Ext w7 w' ∧ ∀ k,a ≤ k → k < i → ltS (gt L t) (gt L1 k) = false) (fun i=>b - i) i0 rfl ⟨Nat.le_refl _,hib0,hij0,Ext.refl _,hq1⟩ ?_
 rintro i w9 Kn9 ⟨hi,hib,hij,h9,hq⟩ hKn9
 intro _
 simp only [gx]
 have ht9:=ht1.ext h9
 refine iJnB (decide ((i:Int) ≤ j0) && !ltS (gt L1 a) (gt L1 i)) w9 (fun J hJ=>?_) (fun w11 h11=>?_)
 ·refine iLe ?_
  refine iCndP (fun h=>?_) (fun h=>?_)
  ·rw [decide_eq_true h,Bool.true_and] at hJ
   refine iRdO (j:=a) ht9.ow rfl (by omega) ?_
   refine iRdO (j:=i) ht9.ow rfl (by omega) ?_
   exact iRetQ (fun w' _=>aP _ _ w') (iNot hJ)
  ·rw [decide_eq_false h,Bool.false_and] at hJ
   exact hJ
 intro _
 simp only [gx]
 have h9':=h9.trans h11
 cases hc:decide ((i:Int) ≤ j0) && !ltS (gt L1 a) (gt L1 i)
 rotate_left
 ·rw [Bool.and_eq_true,decide_eq_true_eq,Bool.not_eq_true'] at hc
  refine iCndT rfl ?_
  (refine iAdd (by omega) ?_)
  refine hKn9 (i + 1) _ ⟨by omega,by omega,by omega,h9',fun k h1 h2=>?_⟩ (by omega)
  by_cases hk:k = i
  ·rw [hk,← he1];exact hc.2
  ·exact hq k h1 (by omega)
 refine iCndF rfl ?_
 refine iLp (fun j:Int=>[.int .i64 j]) (fun j w'=>j ≤ j0 ∧ (i:Int) - 1 ≤ j + 1 ∧ Ext w7 w' ∧ (j < j0 → (i:Int) - 1 ≤ j)) (fun j=>(j + 2).toNat) j0 rfl ⟨Int.le_refl _,hij,h9',fun h=>by omega⟩ ?_
 rintro j w15 Kn15 ⟨hjj,hij2,h15,hij3⟩ hKn15
 intro _
 simp only [gx]
 have ht15:=ht1.ext h15
 refine iJnB (decide ((i:Int) ≤ j) && ltS (gt L1 a) (gt L1 j.toNat)) w15 (fun J hJ=>?_) (fun w17 h17=>?_)
 ·refine iLe ?_
  refine iCndP (fun h=>?_) (fun h=>?_)
  ·rw [decide_eq_true h,Bool.true_and] at hJ
   refine iRdO (j:=a) ht15.ow rfl (by omega) ?_
   refine iRdO (j:=j.toNat) ht15.ow (by omega) (by omega) ?_
   exact iRetQ (fun w' _=>aP _ _ w') hJ
  ·rw [decide_eq_false h,Bool.false_and] at hJ
   exact hJ
 intro _
 simp only [gx]
 have ht17:=ht15.ext h17
 cases hc2:decide ((i:Int) ≤ j) && ltS (gt L1 a) (gt L1 j.toNat)
 rotate_left
 ·rw [Bool.and_eq_true,decide_eq_true_eq] at hc2
  refine iCndT rfl ?_
  refine iSub (by omega) ?_
  exact hKn15 (j - 1) _ ⟨by omega,by omega,h15.trans h17,fun _=>by omega⟩ (by omega)
 refine iCndF rfl ?_
 refine iLt ?_
 refine iCndP (fun h=>?_) (fun h=>?_)
 ·exact ⟨L1,i,rfl,ht17,hw1,by omega,hib,hq⟩
 ·have hlt:ltS (gt L1 a) (gt L1 j.toNat) = false:=by
   rw [decide_eq_true (show (i:Int) ≤ j by omega),Bool.true_and] at hc2;exact hc2
  refine iRdO (j:=j.toNat) ht17.ow (by omega) (by omega) ?_
  refine iRdO (j:=i) ht17.ow rfl (by omega) ?_
  refine iWr2 (i:=i) (j:=j.toNat) (fun _=>rfl) ht17.ow rfl (by omega) (by omega) (by omega) fun w24 h24=>?_
  refine iAdd (by omega) ?_
  refine iSub (by omega) ?_
  have eS:∀ k,gt (sw L1 i j.toNat) k = if k = j.toNat then gt L1 i else if k = i then gt L1 j.toNat else gt L1 k:=gt_sw (by omega) (by omega)
  refine hKn (i + 1,j - 1) _ ⟨by show a + 1 ≤ i + 1;omega,by show i + 1 ≤ b;omega,by show ((i + 1:Nat):Int) - 1 ≤ j - 1 + 1;omega,by show j - 1 < b;omega,sw L1 i j.toNat,ht17.trans h24,.step hw1 (by omega) (by omega) (by omega) (by omega) hb,by rw [eS,if_neg (by omega),if_neg (by omega)];exact he1,fun k h1 h2=>?_⟩ (by show b - (i + 1) < b - i0;omega)
  have h2:k < i + 1:=h2
  rw [eS]
  by_cases hk:k = i
  ·subst hk
   split
   ·rename_i hkj;rw [← hkj,he1] at hlt;exact hlt
   ·rw [if_pos rfl,← he1];exact hlt
  ·rw [if_neg (by omega),if_neg hk];exact hq k h1 (by omega)
end Go.Proofs.YtbfpohbmgjcjmaaGreatDoor

namespace Go.Vc
theorem SO {L:List Str} {a b j:Nat} {pv:Str} (haj:a ≤ j) (hjb:j < b) (hb:b ≤ L.length) (he:gt L a = pv) (h1:∀ k,a + 1 ≤ k → k ≤ j → ltS (gt L k) pv = true) (h2:∀ k,j < k → k < b → ltS (gt L k) pv = false):iG ltS a b j (sw L j a):=by
 have e:∀ k,gt (sw L j a) k = if k = a then gt L j else if k = j then gt L a else gt L k:=gt_sw (by omega) (by omega)
 have ej:gt (sw L j a) j = pv:=by
  rw [e]
  split
  ·rename_i h;rw [h];exact he
  ·rw [if_pos rfl];exact he
 refine ⟨fun k hk hk'=>?_,fun k hk hk'=>?_⟩
 ·rw [ej,e]
  by_cases hka:k = a
  ·rw [if_pos hka];exact h1 j (by omega) (Nat.le_refl _)
  ·rw [if_neg hka,if_neg (by omega)];exact h1 k (by omega) (by omega)
 ·rw [ej,e,if_neg (by omega),if_neg (by omega)];exact h2 k hk hk'
end Go.Vc
namespace Go.Proofs.YtbfpohbmgjcjmaaGreatDoor
open Go.Vc
theorem oW {lo:Nat} {w:World} {v:Value} {L:List Str} {a b t:Nat} (hs:Ow lo aD w v (strs L)) (hat:a ≤ t) (htb:t < b) (hb:b ≤ L.length) (hL:L.length ≤ 1152921504606846976):
  Cal Tryz.prog gV #[v,.int .i64 (a:Int),.int .i64 (b:Int),.int .i64 (t:Int)] w fun r w'=>∃ L':List Str,∃ m:Nat,∃ y:Bool,r = .tuple #[.int .i64 (m:Int),.bool y] ∧ Turn lo aD sv v w w' L' ∧ SwR a b L L' ∧ a ≤ m ∧ m < b ∧ iG ltS a b m L':=by
 apply pP;unfold gW
 refine iRdO (j:=t) hs rfl (by omega) ?_
 refine iRdO (j:=a) hs rfl (by omega) ?_
 refine iWr2 (i:=a) (j:=t) (fun _=>rfl) hs rfl rfl (by omega) (by omega) fun w7 h5=>?_
 have h5:Turn lo aD sv v w w7 (sw L a t):=h5
 have e0:gt (sw L a t) a = gt L t:=by rw [gt_sw (by omega) (by omega)];split <;> simp_all
 have hw0:SwR a b L (sw L a t):=.one (Nat.le_refl _) (by omega) hat htb hb
 have hl0:=hw0.len
 generalize sw L a t = L0 at h5 e0 hw0 hl0
 (refine iAdd (by omega) ?_;refine iSub (by omega) ?_)
 obtain ⟨i0,hi0⟩:∃ i0,i0 = a + 1:=⟨_,rfl⟩
 obtain ⟨j0,hj0⟩:∃ j0:Int,j0 = (b:Int) - 1:=⟨_,rfl⟩
 rw [show (a:Int) + 1 = (i0:Int) by omega,← hj0]
 refine iLp (fun i:Nat=>[.int .i64 (i:Int)]) (fun i w'=>i0 ≤ i ∧ (i:Int) ≤ j0 + 1 ∧ Ext w7 w' ∧ ∀ k,a + 1 ≤ k → k < i → ltS (gt L0 k) (gt L t) = true) (fun i=>b - i) i0 rfl ⟨Nat.le_refl _,by omega,Ext.refl _,fun k h1 h2=>by omega⟩ ?_
 rintro i w9 Kn9 ⟨hi,hij,h9,hq⟩ hKn9
 intro _
 simp only [gx]
 have ht9:=h5.ext h9
 refine iJnB (decide ((i:Int) ≤ j0) && ltS (gt L0 i) (gt L0 a)) w9 (fun J hJ=>?_) (fun w11 h11=>?_)
 ·refine iLe ?_
  refine iCndP (fun h=>?_) (fun h=>?_)
  ·rw [decide_eq_true h,Bool.true_and] at hJ
   refine iRdO (j:=i) ht9.ow rfl (by omega) ?_
   refine iRdO (j:=a) ht9.ow rfl (by omega) ?_
   exact iRetQ (fun w' _=>aP _ _ w') hJ
  ·rw [decide_eq_false h,Bool.false_and] at hJ
   exact hJ
 intro _
 simp only [gx]
 have h9':=h9.trans h11
 cases hc:decide ((i:Int) ≤ j0) && ltS (gt L0 i) (gt L0 a)
 rotate_left
 ·rw [Bool.and_eq_true,decide_eq_true_eq] at hc
  refine iCndT rfl ?_
  (refine iAdd (by omega) ?_)
  refine hKn9 (i + 1) _ ⟨by omega,by omega,h9',fun k h1 h2=>?_⟩ (by omega)
  by_cases hk:k = i
  ·rw [hk,← e0];exact hc.2
  ·exact hq k h1 (by omega)
 refine iCndF rfl ?_
 refine iLp (fun j:Int=>[.int .i64 j]) (fun j w'=>j ≤ j0 ∧ (i:Int) ≤ j + 1 ∧ Ext w7 w' ∧ ∀ k:Nat,j < k → k < b → ltS (gt L0 k) (gt L t) = false) (fun j=>(j + 2).toNat) j0 rfl ⟨Int.le_refl _,hij,h9',fun k h1 h2=>by omega⟩ ?_
 rintro j w15 Kn15 ⟨hjj,hij2,h15,hq2⟩ hKn15
 intro _
 simp only [gx]
 have ht15:=h5.ext h15
 refine iJnB (decide ((i:Int) ≤ j) && !ltS (gt L0 j.toNat) (gt L0 a)) w15 (fun J hJ=>?_) (fun w17 h17=>?_)
 ·refine iLe ?_
  refine iCndP (fun h=>?_) (fun h=>?_)
  ·rw [decide_eq_true h,Bool.true_and] at hJ
   refine iRdO (j:=j.toNat) ht15.ow (by omega) (by omega) ?_
   refine iRdO (j:=a) ht15.ow rfl (by omega) ?_
   exact iRetQ (fun w' _=>aP _ _ w') (iNot hJ)
  ·rw [decide_eq_false h,Bool.false_and] at hJ
   exact hJ
 intro _
 simp only [gx]
 have ht17:=ht15.ext h17
 cases hc2:decide ((i:Int) ≤ j) && !ltS (gt L0 j.toNat) (gt L0 a)
 rotate_left
 ·rw [Bool.and_eq_true,decide_eq_true_eq,Bool.not_eq_true'] at hc2
  refine iCndT rfl ?_
  refine iSub (by omega) ?_
  refine hKn15 (j - 1) _ ⟨by omega,by omega,h15.trans h17,fun k h1 h2=>?_⟩ (by omega)
  by_cases hk:(k:Int) = j
  ·rw [show k = j.toNat by omega,← e0];exact hc2.2
  ·exact hq2 k (by omega) h2
 refine iCndF rfl ?_
 refine iLt ?_
 refine iCndP (fun h=>?_) (fun h=>?_)
 ·refine iRdO (j:=a) ht17.ow rfl (by omega) ?_
  refine iRdO (j:=j.toNat) ht17.ow (by omega) (by omega) ?_
  refine iWr2 (i:=j.toNat) (j:=a) (fun _=>rfl) ht17.ow (by omega) rfl (by omega) (by omega) fun w22 h22=>?_
  exact ⟨sw L0 j.toNat a,j.toNat,true,by rw [Int.toNat_of_nonneg (by omega)],ht17.trans h22,.step hw0 (by omega) (by omega) (Nat.le_refl _) (by omega) hb,by omega,by omega,SO (by omega) (by omega) (by omega) e0 (fun k h1 h2=>hq k h1 (by omega)) (fun k h1 h2=>hq2 k (by omega) h2)⟩
 have hlt1:ltS (gt L0 i) (gt L t) = false:=by
  rw [decide_eq_true (show (i:Int) ≤ j0 by omega),Bool.true_and,e0] at hc;exact hc
 have hlt2:ltS (gt L0 j.toNat) (gt L t) = true:=by
  rw [decide_eq_true (show (i:Int) ≤ j by omega),Bool.true_and,Bool.not_eq_false',e0] at hc2;exact hc2
 have hne:i ≠ j.toNat:=fun e=>by rw [e,hlt2] at hlt1;cases hlt1
 refine iRdO (j:=j.toNat) ht17.ow (by omega) (by omega) ?_
 refine iRdO (j:=i) ht17.ow rfl (by omega) ?_
 refine iWr2 (i:=i) (j:=j.toNat) (fun _=>rfl) ht17.ow rfl (by omega) (by omega) (by omega) fun w24 h24=>?_
 refine iAdd (by omega) ?_
 refine iSub (by omega) ?_
 have eS:∀ k,gt (sw L0 i j.toNat) k = if k = j.toNat then gt L0 i else if k = i then gt L0 j.toNat else gt L0 k:=gt_sw (by omega) (by omega)
 have nx1:∀ k,a + 1 ≤ k → k < i + 1 → ltS (gt (sw L0 i j.toNat) k) (gt L t) = true:=fun k h1 h2=>by
  rw [eS,if_neg (by omega)]
  by_cases hk:k = i
  ·rw [if_pos hk];exact hlt2
  ·rw [if_neg hk];exact hq k h1 (by omega)
 have nx2:∀ k:Nat,j - 1 < k → k < b → ltS (gt (sw L0 i j.toNat) k) (gt L t) = false:=fun k h1 h2=>by
  rw [eS]
  by_cases hk:k = j.toNat
  ·rw [if_pos hk];exact hlt1
  ·rw [if_neg hk,if_neg (by omega)];exact hq2 k (by omega) h2
 have nxe:gt (sw L0 i j.toNat) a = gt L t:=by rw [eS,if_neg (by omega),if_neg (by omega)];exact e0
 refine iLp (fun s:Nat × Int=>[.int .i64 (s.1:Int),.int .i64 s.2]) (fun s w'=>a + 1 ≤ s.1 ∧ (s.1:Int) ≤ s.2 + 1 ∧ s.2 < b ∧ ∃ L',Turn lo aD sv v w w' L' ∧ SwR a b L L' ∧ gt L' a = gt L t ∧ (∀ k,a + 1 ≤ k → k < s.1 → ltS (gt L' k) (gt L t) = true) ∧ ∀ k:Nat,s.2 < k → k < b → ltS (gt L' k) (gt L t) = false) (fun s=>b - s.1) (i + 1,j - 1) rfl
  ⟨by show a + 1 ≤ i + 1;omega,by show ((i + 1:Nat):Int) ≤ j - 1 + 1;omega,by show j - 1 < b;omega,sw L0 i j.toNat,ht17.trans h24,.step hw0 (by omega) (by omega) (by omega) (by omega) hb,nxe,nx1,nx2⟩ ?_
 clear hKn9 hKn15 nxe nx1 nx2 eS hq hq2
 rintro ⟨i1,j1⟩ w29 Kn ⟨hi1,hij1,hjb1,L1,ht1,hw1,he1,hq1,hq21⟩ hKn
 have hi1:a + 1 ≤ i1:=hi1
 have hij1:(i1:Int) ≤ j1 + 1:=hij1
 have hjb1:j1 < b:=hjb1
 have hl1:=hw1.len
 intro _
 simp only [gx]
 refine iLp (fun i:Nat=>[.int .i64 (i:Int)]) (fun i w'=>i1 ≤ i ∧ (i:Int) ≤ j1 + 1 ∧ Ext w29 w' ∧ ∀ k,a + 1 ≤ k → k < i → ltS (gt L1 k) (gt L t) = true) (fun i=>b - i) i1 rfl ⟨Nat.le_refl _,by omega,Ext.refl _,hq1⟩ ?_
 rintro i w9 Kn9 ⟨hi,hij,h9,hq⟩ hKn9
 intro _
 simp only [gx]
 have ht9:=ht1.ext h9
 refine iJnB (decide ((i:Int) ≤ j1) && ltS (gt L1 i) (gt L1 a)) w9 (fun J hJ=>?_) (fun w11 h11=>?_)
 ·refine iLe ?_
  refine iCndP (fun h=>?_) (fun h=>?_)
  ·rw [decide_eq_true h,Bool.true_and] at hJ
   refine iRdO (j:=i) ht9.ow rfl (by omega) ?_
   refine iRdO (j:=a) ht9.ow rfl (by omega) ?_
   exact iRetQ (fun w' _=>aP _ _ w') hJ
  ·rw [decide_eq_false h,Bool.false_and] at hJ
   exact hJ
 intro _
 simp only [gx]
 have h9':=h9.trans h11
 cases hc:decide ((i:Int) ≤ j1) && ltS (gt L1 i) (gt L1 a)
 rotate_left
 ·rw [Bool.and_eq_true,decide_eq_true_eq] at hc
  refine iCndT rfl ?_
  (refine iAdd (by omega) ?_)
  refine hKn9 (i + 1) _ ⟨by omega,by omega,h9',fun k h1 h2=>?_⟩ (by omega)
  by_cases hk:k = i
  ·rw [hk,← he1];exact hc.2
  ·exact hq k h1 (by omega)
 refine iCndF rfl ?_
 refine iLp (fun j:Int=>[.int .i64 j]) (fun j w'=>j ≤ j1 ∧ (i:Int) ≤ j + 1 ∧ Ext w29 w' ∧ ∀ k:Nat,j < k → k < b → ltS (gt L1 k) (gt L t) = false) (fun j=>(j + 2).toNat) j1 rfl ⟨Int.le_refl _,hij,h9',hq21⟩ ?_
 rintro j w15 Kn15 ⟨hjj,hij2,h15,hq2⟩ hKn15
 intro _
 simp only [gx]
 have ht15:=ht1.ext h15
 refine iJnB (decide ((i:Int) ≤ j) && !ltS (gt L1 j.toNat) (gt L1 a)) w15 (fun J hJ=>?_) (fun w17 h17=>?_)
 ·refine iLe ?_
  refine iCndP (fun h=>?_) (fun h=>?_)
  ·rw [decide_eq_true h,Bool.true_and] at hJ
   refine iRdO (j:=j.toNat) ht15.ow (by omega) (by omega) ?_
   refine iRdO (j:=a) ht15.ow rfl (by omega) ?_
   exact iRetQ (fun w' _=>aP _ _ w') (iNot hJ)
  ·rw [decide_eq_false h,Bool.false_and] at hJ
   exact hJ
 intro _
 simp only [gx]
 have ht17:=ht15.ext h17
 cases hc2:decide ((i:Int) ≤ j) && !ltS (gt L1 j.toNat) (gt L1 a)
 rotate_left
 ·rw [Bool.and_eq_true,decide_eq_true_eq,Bool.not_eq_true'] at hc2
  refine iCndT rfl ?_
  refine iSub (by omega) ?_
  refine hKn15 (j - 1) _ ⟨by omega,by omega,h15.trans h17,fun k h1 h2=>?_⟩ (by omega)
  by_cases hk:(k:Int) = j
  ·rw [show k = j.toNat by omega,← he1];exact hc2.2
  ·exact hq2 k (by omega) h2
 refine iCndF rfl ?_
 refine iLt ?_
 refine iCndP (fun h=>?_) (fun h=>?_)
 ·refine iRdO (j:=a) ht17.ow rfl (by omega) ?_
  refine iRdO (j:=j.toNat) ht17.ow (by omega) (by omega) ?_
  refine iWr2 (i:=j.toNat) (j:=a) (fun _=>rfl) ht17.ow (by omega) rfl (by omega) (by omega) fun w22 h22=>?_
  exact ⟨sw L1 j.toNat a,j.toNat,false,by rw [Int.toNat_of_nonneg (by omega)],ht17.trans h22,.step hw1 (by omega) (by omega) (Nat.le_refl _) (by omega) hb,by omega,by omega,SO (by omega) (by omega) (by omega) he1 (fun k h1 h2=>hq k h1 (by omega)) (fun k h1 h2=>hq2 k (by omega) h2)⟩
 have hlt1:ltS (gt L1 i) (gt L t) = false:=by
  rw [decide_eq_true (show (i:Int) ≤ j1 by omega),Bool.true_and,he1] at hc;exact hc
 have hlt2:ltS (gt L1 j.toNat) (gt L t) = true:=by
  rw [decide_eq_true (show (i:Int) ≤ j by omega),Bool.true_and,Bool.not_eq_false',he1] at hc2;exact hc2
 have hne:i ≠ j.toNat:=fun e=>by rw [e,hlt2] at hlt1;cases hlt1
 refine iRdO (j:=j.toNat) ht17.ow (by omega) (by omega) ?_
 refine iRdO (j:=i) ht17.ow rfl (by omega) ?_
 refine iWr2 (i:=i) (j:=j.toNat) (fun _=>rfl) ht17.ow rfl (by omega) (by omega) (by omega) fun w24 h24=>?_
 refine iAdd (by omega) ?_
 refine iSub (by omega) ?_
 have eS:∀ k,gt (sw L1 i j.toNat) k = if k = j.toNat then gt L1 i else if k = i then gt L1 j.toNat else gt L1 k:=gt_sw (by omega) (by omega)
 have nx1:∀ k,a + 1 ≤ k → k < i + 1 → ltS (gt (sw L1 i j.toNat) k) (gt L t) = true:=fun k h1 h2=>by
  rw [eS,if_neg (by omega)]
  by_cases hk:k = i
  ·rw [if_pos hk];exact hlt2
  ·rw [if_neg hk];exact hq k h1 (by omega)
 have nx2:∀ k:Nat,j - 1 < k → k < b → ltS (gt (sw L1 i j.toNat) k) (gt L t) = false:=fun k h1 h2=>by
  rw [eS]
  by_cases hk:k = j.toNat
  ·rw [if_pos hk];exact hlt1
  ·rw [if_neg hk,if_neg (by omega)];exact hq2 k (by omega) h2
 have nxe:gt (sw L1 i j.toNat) a = gt L t:=by rw [eS,if_neg (by omega),if_neg (by omega)];exact he1
 exact hKn (i + 1,j - 1) _ ⟨by show a + 1 ≤ i + 1;omega,by show ((i + 1:Nat):Int) ≤ j - 1 + 1;omega,by show j - 1 < b;omega,sw L1 i j.toNat,ht17.trans h24,.step hw1 (by omega) (by omega) (by omega) (by omega) hb,nxe,nx1,nx2⟩ (by show b - (i + 1) < b - i1;omega)
theorem iV {lo:Nat} {w:World} {v:Value} {L:List Str} {a b:Nat} (hs:Ow lo aD w v (strs L)) (hab:a < b) (hb:b ≤ L.length) (hL:L.length ≤ 1152921504606846976) (hbl:Blw ltS a b L):
  Cal Tryz.prog cV #[v,.int .i64 (a:Int),.int .i64 (b:Int)] w fun r w'=>∃ y:Bool,∃ L':List Str,r = .bool y ∧ Turn lo aD sv v w w' L' ∧ SwR a b L L' ∧ (y = true → Srt ltS a b L'):=by
 apply jF;unfold cU
 (refine iAdd (by omega) ?_)
 refine iLp (fun s:Nat × Nat=>[.int .i64 (s.1:Int),.int .i64 (s.2:Int)]) (fun s w'=>a + 1 ≤ s.1 ∧ s.1 ≤ b ∧ s.2 ≤ 5 ∧ ∃ L',Turn lo aD sv v w w' L' ∧ SwR a b L L' ∧ Srt ltS a s.1 L') (fun s=>5 - s.2) (a + 1,0) rfl ⟨Nat.le_refl _,by show a + 1 ≤ b;omega,Nat.zero_le _,L,Turn.refl hs,.refl,Srt.short (Nat.le_refl _)⟩ ?_
 rintro ⟨i0,r⟩ w2 Kn ⟨hi0,hib0,hr,L1,ht1,hw1,hs1⟩ hKn
 have hi0:a + 1 ≤ i0:=hi0
 have hib0:i0 ≤ b:=hib0
 have hr:r ≤ 5:=hr
 have hs1:Srt ltS a i0 L1:=hs1
 have hl1:=hw1.len
 intro _
 simp only [gx]
 refine iLt ?_
 refine iCndP (fun h5=>?_) (fun h5=>?_)
 rotate_left
 ·exact ⟨false,L1,rfl,ht1,hw1,fun h=>by cases h⟩
 refine iLp (fun i:Nat=>[.int .i64 (i:Int)]) (fun i w'=>i0 ≤ i ∧ i ≤ b ∧ Ext w2 w' ∧ Srt ltS a i L1) (fun i=>b - i) i0 rfl ⟨Nat.le_refl _,hib0,Ext.refl _,hs1⟩ ?_
 rintro i w4 Kn4 ⟨hi,hib,h4,hsi⟩ hKn4
 intro _
 simp only [gx]
 have ht4:=ht1.ext h4
 refine iJnB (decide (i < b) && !ltS (gt L1 i) (gt L1 (i - 1))) w4 (fun J hJ=>?_) (fun w6 h6=>?_)
 ·refine iLt ?_
  refine iCndP (fun h=>?_) (fun h=>?_)
  ·rw [decide_eq_true (show i < b by omega),Bool.true_and] at hJ
   refine iRdO (j:=i) ht4.ow rfl (by omega) ?_
   refine iSub (by omega) ?_
   refine iRdO (j:=i - 1) ht4.ow (by omega) (by omega) ?_
   exact iRetQ (fun w' _=>aP _ _ w') (iNot hJ)
  ·rw [decide_eq_false (show ¬ i < b by omega),Bool.false_and] at hJ
   exact hJ
 intro _
 simp only [gx]
 have ht6:=ht4.ext h6
 cases hc:decide (i < b) && !ltS (gt L1 i) (gt L1 (i - 1))
 rotate_left
 ·rw [Bool.and_eq_true,decide_eq_true_eq,Bool.not_eq_true'] at hc
  refine iCndT rfl ?_
  refine iAdd (by omega) ?_
  refine hKn4 (i + 1) _ ⟨by omega,by omega,h4.trans h6,fun p q g1 g2 g3=>?_⟩ (by omega)
  by_cases hq:q = i
  ·subst hq
   by_cases hp:p = q - 1
   ·rw [hp];exact hc.2
   ·exact ordrS.tr (hsi p (q - 1) g1 (by omega) (by omega)) hc.2
  ·exact hsi p q g1 g2 (by omega)
 refine iCndF rfl ?_
 refine iEq ?_
 refine iCndP (fun h=>?_) (fun h=>?_)
 ·have:i = b:=by omega
  subst this
  exact ⟨true,L1,rfl,ht6,hw1,fun _=>hsi⟩
 have hlt:ltS (gt L1 i) (gt L1 (i - 1)) = true:=by
  rw [decide_eq_true (show i < b by omega),Bool.true_and,Bool.not_eq_false'] at hc;exact hc
 refine iSub (by omega) ?_
 refine iLt ?_
 refine iCndP (fun h7=>?_) (fun h7=>?_)
 ·exact ⟨false,L1,rfl,ht6,hw1,fun h=>by cases h⟩
 refine iSub (by omega) ?_
 refine iSub (by omega) ?_
 refine iRdO (j:=i - 1) ht6.ow (by omega) (by omega) ?_
 refine iRdO (j:=i) ht6.ow rfl (by omega) ?_
 refine iWr2 (i:=i) (j:=i - 1) (fun _=>rfl) ht6.ow rfl (by omega) (by omega) (by omega) fun w13 h13=>?_
 have h13:Turn lo aD sv v w6 w13 (sw L1 i (i - 1)):=h13
 have hw2:SwR a b L1 (sw L1 i (i - 1)):=.one (by omega) (by omega) (by omega) (by omega) (by omega)
 have hs2:Srt ltS a (i - 1) (sw L1 i (i - 1)):=(hsi.mono (Nat.le_refl _) (by omega)).out (SwR.one (a:=i - 1) (b:=b) (by omega) (by omega) (by omega) (by omega) (by omega)) (.inr (Nat.le_refl _))
 have ht13:=ht6.trans h13
 have hw13:=hw1.trans hw2
 generalize sw L1 i (i - 1) = L2 at h13 hw2 hs2 ht13 hw13
 have hl2:=hw13.len
 have hbl2:Blw ltS a b L2:=hbl.keep hw13 (Nat.le_refl _) (Nat.le_refl _)
 refine iSub (by omega) ?_
 refine iLe ?_
 refine iJnX (fun _ w'=>∃ L',Turn lo aD sv v w w' L' ∧ SwR a b L L' ∧ Srt ltS a i L') (fun J hJ=>?_) ?_
 ·refine iCndP (fun h8=>?_) (fun h8=>?_)
  ·refine iSub (by omega) ?_
   refine iLp (fun j:Nat=>[.int .i64 (j:Int)]) (fun j w'=>a ≤ j ∧ j ≤ i - 1 ∧ ∃ L',Turn lo aD sv v w w' L' ∧ SwR a b L L' ∧ Blw ltS a b L' ∧ Ins ltS a (i - 1) j L') (fun j=>j) (i - 1) (by congr 2;omega) ⟨by omega,Nat.le_refl _,L2,ht13,hw13,hbl2,Ins.init hs2⟩ ?_
   rintro j w17 Kn17 ⟨haj,hji,L3,ht3,hw3,hbl3,hin⟩ hKn17
   have hl3:=hw3.len
   intro _
   simp only [gx]
   refine iLe ?_
   refine iCndP (fun h9=>?_) (fun h9=>?_)
   ·refine iRdO (j:=j) ht3.ow rfl (by omega) ?_
    refine iSub (by omega) ?_
    refine iRdO (j:=j - 1) ht3.ow (by omega) (by omega) ?_
    refine iRetQ (fun w' _=>aP _ _ w') ?_
    refine iNot ?_
    intro w18 h18
    have ht18:=ht3.ext h18
    refine iCnd (fun h10=>?_) (fun h10=>?_)
    ·have h10:ltS (gt L3 j) (gt L3 (j - 1)) = false:=by simpa using h10
     refine hJ _ _ ⟨L3,ht18,hw3,?_⟩
     have:=hin.done ordrS (by rcases Nat.lt_or_ge a j with h' | h';exact .inr ⟨h',h10⟩;exact .inl h') hji
     rwa [show i - 1 + 1 = i by omega] at this
    ·have h10:ltS (gt L3 j) (gt L3 (j - 1)) = true:=by simpa using h10
     have haj':a < j:=by
      rcases Nat.lt_or_ge a j with h' | h'
      ·exact h'
      ·have e:j = a:=by omega
       subst e
       have:=hbl3 j (Nat.le_refl _) (by omega) (by omega)
       rw [h10] at this;cases this
     refine iSub (by omega) ?_
     refine iSub (by omega) ?_
     refine iRdO (j:=j - 1) ht18.ow (by omega) (by omega) ?_
     refine iRdO (j:=j) ht18.ow rfl (by omega) ?_
     refine iWr2 (i:=j) (j:=j - 1) (fun _=>rfl) ht18.ow rfl (by omega) (by omega) (by omega) fun w23 h23=>?_
     refine iSub (by omega) ?_
     rw [show (j:Int) - 1 = ((j - 1:Nat):Int) by omega]
     have hw4:SwR a b L3 (sw L3 j (j - 1)):=.one (by omega) (by omega) (by omega) (by omega) (by omega)
     exact hKn17 (j - 1) _ ⟨by omega,by omega,sw L3 j (j - 1),ht18.trans h23,hw3.trans hw4,hbl3.keep hw4 (Nat.le_refl _) (Nat.le_refl _),hin.swap ordrS haj' hji (by omega) h10⟩ (by omega)
   ·refine hJ _ _ ⟨L3,ht3,hw3,?_⟩
    have:=hin.done ordrS (.inl (by omega)) hji
    rwa [show i - 1 + 1 = i by omega] at this
  ·exact hJ _ _ ⟨L2,ht13,hw13,Srt.short (by omega)⟩
 rintro xs w15 ⟨L3,ht3,hw3,hs3⟩
 have hl3:=hw3.len
 intro _
 refine iSub (by omega) ?_
 refine iLe ?_
 refine iCndP (fun h8=>?_) (fun h8=>?_)
 ·refine iAdd (by omega) ?_
  refine iLp (fun j:Nat=>[.int .i64 (j:Int)]) (fun j w'=>i + 1 ≤ j ∧ j ≤ b ∧ ∃ L',Turn lo aD sv v w w' L' ∧ SwR a b L L' ∧ Srt ltS a i L') (fun j=>b - j) (i + 1) rfl ⟨Nat.le_refl _,by omega,L3,ht3,hw3,hs3⟩ ?_
  rintro j w25 Kn25 ⟨hij,hjb,L4,ht4,hw4,hs4⟩ hKn25
  have hl4:=hw4.len
  intro _
  simp only [gx]
  refine iLt ?_
  refine iCndP (fun h9=>?_) (fun h9=>?_)
  ·refine iRdO (j:=j) ht4.ow rfl (by omega) ?_
   refine iSub (by omega) ?_
   refine iRdO (j:=j - 1) ht4.ow (by omega) (by omega) ?_
   refine iRetQ (fun w' _=>aP _ _ w') ?_
   refine iNot ?_
   intro w26 h26
   have ht26:=ht4.ext h26
   refine iCnd (fun h10=>?_) (fun h10=>?_)
   ·refine iAdd (by omega) ?_
    exact hKn (i,r + 1) _ ⟨by show a + 1 ≤ i;omega,hib,by show r + 1 ≤ 5;omega,L4,ht26,hw4,hs4⟩ (by show 5 - (r + 1) < 5 - r;omega)
   ·refine iSub (by omega) ?_
    refine iSub (by omega) ?_
    refine iRdO (j:=j - 1) ht26.ow (by omega) (by omega) ?_
    refine iRdO (j:=j) ht26.ow rfl (by omega) ?_
    refine iWr2 (i:=j) (j:=j - 1) (fun _=>rfl) ht26.ow rfl (by omega) (by omega) (by omega) fun w31 h31=>?_
    refine iAdd (by omega) ?_
    exact hKn25 (j + 1) _ ⟨by omega,by omega,sw L4 j (j - 1),ht26.trans h31,.step hw4 (by omega) (by omega) (by omega) (by omega) hb,hs4.out (SwR.one (a:=i) (b:=b) (by omega) (by omega) (by omega) (by omega) (by omega)) (.inr (Nat.le_refl _))⟩ (by omega)
  ·refine iAdd (by omega) ?_
   exact hKn (i,r + 1) _ ⟨by show a + 1 ≤ i;omega,hib,by show r + 1 ≤ 5;omega,L4,ht4,hw4,hs4⟩ (by show 5 - (r + 1) < 5 - r;omega)
 ·refine iAdd (by omega) ?_
  exact hKn (i,r + 1) _ ⟨by show a + 1 ≤ i;omega,hib,by show r + 1 ≤ 5;omega,L3,ht3,hw3,hs3⟩ (by show 5 - (r + 1) < 5 - r;omega)
theorem qU {lo:Nat} {v:Value}:∀ (n:Nat) {w:World} {L:List Str} {a b:Nat} {lim:Int},b - a ≤ n → Ow lo aD w v (strs L) → a ≤ b → b ≤ L.length → L.length ≤ 1152921504606846976 → Blw ltS a b L → 0 ≤ lim ∧ lim ≤ 64 →
  Cal Tryz.prog iR #[v,.int .i64 (a:Int),.int .i64 (b:Int),.int .i64 lim] w fun _ w'=>∃ L',Turn lo aD sv v w w' L' ∧ SwR a b L L' ∧ Srt ltS a b L':=by
 intro n
 induction n using Nat.strongRecOn with
 | ind n ih=>
 intro w L a0 b0 lim0 hn hs hab hb hL hbl hlim
 apply rS;unfold iU
 refine iLp (fun s:Nat × Nat × Int × Bool × Bool=>[.int .i64 (s.1:Int),.int .i64 (s.2.1:Int),.int .i64 s.2.2.1,.bool s.2.2.2.1,.bool s.2.2.2.2]) (fun s w'=>a0 ≤ s.1 ∧ s.1 ≤ s.2.1 ∧ s.2.1 ≤ b0 ∧ (0 ≤ s.2.2.1 ∧ s.2.2.1 ≤ 64) ∧ ∃ L',Turn lo aD sv v w w' L' ∧ SwR a0 b0 L L' ∧ Blw ltS s.1 s.2.1 L' ∧ Crs ltS a0 b0 s.1 s.2.1 L') (fun s=>s.2.1 - s.1) (a0,b0,lim0,true,true) rfl
  ⟨Nat.le_refl _,hab,Nat.le_refl _,hlim,L,Turn.refl hs,.refl,hbl,Crs.all⟩ ?_
 rintro ⟨a,b,lim,bal,par⟩ w2 Kn ⟨ha,hab,hbb,hlim,L1,ht1,hw1,hbl1,hcr1⟩ hKn
 have ha:a0 ≤ a:=ha
 have hab:a ≤ b:=hab
 have hbb:b ≤ b0:=hbb
 have hlim:0 ≤ lim ∧ lim ≤ 64:=hlim
 have hbl1:Blw ltS a b L1:=hbl1
 have hcr1:Crs ltS a0 b0 a b L1:=hcr1
 have hl1:=hw1.len
 intro _
 simp only [gx]
 -- a sorted window closes the work
 have fin:∀ {L' L'':List Str} {w':World} {a b:Nat},Turn lo aD sv v w w' L'' → SwR a0 b0 L L' → SwR a b L' L'' → a0 ≤ a → b ≤ b0 → Crs ltS a0 b0 a b L' → Srt ltS a b L'' → ∃ L',Turn lo aD sv v w w' L' ∧ SwR a0 b0 L L' ∧ Srt ltS a0 b0 L':=
  fun {L' L'' w' a b} h1 h2 h3 h4 h5 h6 h7=>⟨L'',h1,h2.trans (h3.mono h4 h5 (by rw [h2.len];exact hb)),h6.done h3 h4 h5 h7⟩
 refine iSub (by omega) ?_
 refine iLe ?_
 refine iCndP (fun h=>?_) (fun h=>?_)
 ·refine iCall ?_
  refine (lT ht1.ow hab (by omega) (by omega)).mono fun _ w3 h3=>?_
  obtain ⟨L2,ht2,hw2,hs2⟩:=h3
  exact fin (ht1.trans ht2) hw1 hw2 ha hbb hcr1 hs2
 refine iEq ?_
 refine iCndP (fun h0=>?_) (fun h0=>?_)
 ·refine iCall ?_
  refine (pS ht1.ow (by omega) (by omega) (by omega)).mono fun _ w3 h3=>?_
  obtain ⟨L2,ht2,hw2,hs2⟩:=h3
  exact fin (ht1.trans ht2) hw1 hw2 ha hbb hcr1 hs2
 refine iNot ?_
 refine iJnX (fun xs w'=>∃ l2:Int,∃ L',xs = [.int .i64 l2] ∧ (0 ≤ l2 ∧ l2 ≤ 64) ∧ Turn lo aD sv v w w' L' ∧ SwR a b L1 L') (fun J hJ=>?_) ?_
 ·refine iCnd (fun _=>?_) (fun _=>?_)
  ·refine iCall ?_
   refine (lW ht1.ow hab (by omega) (by omega)).mono fun _ w3 h3=>?_
   obtain ⟨L2,ht2,hw2⟩:=h3
   refine iSub (by omega) ?_
   exact hJ _ _ ⟨lim - 1,L2,rfl,by omega,ht1.trans ht2,hw2⟩
  ·exact hJ _ _ ⟨lim,L1,rfl,hlim,ht1,.refl⟩
 rintro xs w6 ⟨lim,L2,rfl,hlim,ht2,hw2⟩
 have hl2:=hw2.len
 intro _
 simp only [gx]
 refine iCall ?_
 refine (nH ht2.ow (by omega) (by omega) (by omega)).mono fun r w8 h8=>?_
 obtain ⟨h8,t,x,rfl,hat,htb⟩:=h8
 have ht8:=ht2.ext h8
 refine iE20 ?_
 refine iE21 ?_
 refine iEq ?_
 refine iJnX (fun xs w'=>∃ t:Nat,∃ x:Int,∃ L',xs = [.int .i64 (t:Int),.int .i64 x] ∧ a ≤ t ∧ t < b ∧ Turn lo aD sv v w w' L' ∧ SwR a b L1 L') (fun J hJ=>?_) ?_
 ·refine iCndP (fun _=>?_) (fun _=>?_)
  ·refine iCall ?_
   refine (mM ht8.ow hab (by omega) (by omega)).mono fun _ w3 h3=>?_
   obtain ⟨L3,ht3,hw3⟩:=h3
   refine iSub (by omega) ?_
   refine iSub (by omega) ?_
   refine iSub (by omega) ?_
   exact hJ _ _ ⟨b - 1 - (t - a),1,L3,by congr 2;omega,by omega,by omega,ht8.trans ht3,hw2.trans hw3⟩
  ·exact hJ _ _ ⟨t,x,L2,rfl,hat,htb,ht8,hw2⟩
 clear hat htb
 rintro xs w10 ⟨t,x,L3,rfl,hat,htb,ht3,hw3⟩
 intro _
 simp only [gx]
 refine iJnX (fun xs w'=>∃ y:Bool,xs = [.bool y] ∧ Ext w10 w') (fun J hJ=>?_) ?_
 ·refine iCnd (fun _=>?_) (fun _=>?_)
  ·refine iCnd (fun _=>?_) (fun _=>?_)
   ·refine iEq ?_
    exact hJ _ _ ⟨_,rfl,Ext.refl _⟩
   ·exact hJ _ _ ⟨false,rfl,Ext.refl _⟩
  ·exact hJ _ _ ⟨false,rfl,Ext.refl _⟩
 rintro xs w13 ⟨y,rfl,h13⟩
 intro _
 simp only [gx]
 have ht13:=ht3.ext h13
 have hl3:=hw3.len
 refine iJnX (fun _ w'=>∃ L',Turn lo aD sv v w w' L' ∧ SwR a b L1 L') (fun J hJ=>?_) ?_
 ·refine iCnd (fun _=>?_) (fun _=>?_)
  ·refine iCall ?_
   refine (iV ht13.ow (by omega) (by omega) (by omega) (hbl1.keep hw3 (Nat.le_refl _) (Nat.le_refl _))).mono fun r w3 h3=>?_
   obtain ⟨y',L4,rfl,ht4,hw4,hs4⟩:=h3
   refine iCnd (fun hy=>?_) (fun hy=>?_)
   ·exact fin (ht13.trans ht4) hw1 (hw3.trans hw4) ha hbb hcr1 (hs4 hy)
   ·exact hJ _ _ ⟨L4,ht13.trans ht4,hw3.trans hw4⟩
  ·exact hJ _ _ ⟨L3,ht13,hw3⟩
 clear ht3 hw3 ht13 ht8 ht2 hw2 hl2 hl3
 rintro xs w15 ⟨L3,ht3,hw3⟩
 have hl3:=hw3.len
 have hw3':SwR a0 b0 L L3:=hw1.trans (hw3.mono ha hbb (by omega))
 have hbl3:Blw ltS a b L3:=hbl1.keep hw3 (Nat.le_refl _) (Nat.le_refl _)
 have hcr3:Crs ltS a0 b0 a b L3:=hcr1.keep hw3 ha hbb
 intro _
 refine iJnB (decide (0 < a) && !ltS (gt L3 (a - 1)) (gt L3 t)) w15 (fun J hJ=>?_) (fun w18 h18=>?_)
 ·refine iLt ?_
  refine iCndP (fun h5=>?_) (fun h5=>?_)
  ·rw [decide_eq_true (show 0 < a by omega),Bool.true_and] at hJ
   refine iSub (by omega) ?_
   refine iRdO (j:=a - 1) ht3.ow (by omega) (by omega) ?_
   refine iRdO (j:=t) ht3.ow rfl (by omega) ?_
   exact iRetQ (fun w' _=>aP _ _ w') (iNot hJ)
  ·rw [decide_eq_false (show ¬ 0 < a by omega),Bool.false_and] at hJ
   exact hJ
 intro _
 simp only [gx]
 have ht18:=ht3.ext h18
 cases hc:decide (0 < a) && !ltS (gt L3 (a - 1)) (gt L3 t)
 rotate_left
 ·rw [Bool.and_eq_true,decide_eq_true_eq,Bool.not_eq_true'] at hc
  refine iCndT rfl ?_
  refine iCall ?_
  refine (lL ht18.ow hat htb (by omega) (by omega)).mono fun r w21 h21=>?_
  obtain ⟨L4,m,rfl,ht4,hw4,ham,hmb,hle⟩:=h21
  have hge:∀ k,a ≤ k → k < b → ltS (gt L4 k) (gt L3 t) = false:=hw4.all (p:=fun z=>ltS z (gt L3 t) = false) fun k hk hk'=>ordrS.tr hc.2 (hbl3 k hk hk' (by omega))
  refine hKn (m,b,lim,bal,par) _ ⟨by show a0 ≤ m;omega,hmb,hbb,hlim,L4,ht18.trans ht4,hw3'.trans (hw4.mono ha hbb (by rw [hw3'.len];omega)),XM ordrS hge hle ham,Y4 ordrS (hcr3.keep hw4 ha hbb) hge hle hmb⟩ (by show b - m < b - a;omega)
 refine iCndF rfl ?_
 refine iCall ?_
 refine (oW ht18.ow hat htb (by omega) (by omega)).mono fun r w22 h22=>?_
 obtain ⟨L4,m,y',rfl,ht4,hw4,ham,hmb,hpt⟩:=h22
 have hl4:=hw4.len
 have ht22:=ht18.trans ht4
 have hw4':SwR a0 b0 L L4:=hw3'.trans (hw4.mono ha hbb (by rw [hw3'.len];omega))
 have hbl4:Blw ltS a b L4:=hbl3.keep hw4 (Nat.le_refl _) (Nat.le_refl _)
 have hcr4:Crs ltS a0 b0 a b L4:=hcr3.keep hw4 ha hbb
 refine iE20 ?_
 refine iE21 ?_
 refine iSub (by omega) ?_
 refine iSub (by omega) ?_
 refine iQuo (by omega) ?_
 refine iLt ?_
 refine iCndP (fun h5=>?_) (fun h5=>?_)
 ·refine iLe ?_
  refine iCall ?_
  refine (ih (m - a) (by omega) (Nat.le_refl _) ht22.ow ham (by omega) (by omega) (hbl4.low (by omega)) hlim).mono fun _ w23 h23=>?_
  obtain ⟨L5,ht5,hw5,hs5⟩:=h23
  have hw5':SwR a b L4 L5:=hw5.mono (Nat.le_refl _) (by omega) (by omega)
  have hpt5:=hpt.lowS hw5
  refine iAdd (by omega) ?_
  exact hKn (m + 1,b,lim,_,y') _ ⟨by show a0 ≤ m + 1;omega,by show m + 1 ≤ b;omega,hbb,hlim,L5,ht22.trans ht5,hw4'.trans (hw5'.mono ha hbb (by rw [hw4'.len];omega)),hpt5.blw,hpt5.up ordrS (hcr4.keep hw5' ha hbb) hs5⟩ (by show b - (m + 1) < b - a;omega)
 ·refine iLe ?_
  refine iAdd (by omega) ?_
  refine iCall ?_
  refine (ih (b - (m + 1)) (by omega) (a:=m + 1) (Nat.le_refl _) ht22.ow (by omega) (by omega) (by omega) hpt.blw hlim).mono fun _ w23 h23=>?_
  obtain ⟨L5,ht5,hw5,hs5⟩:=h23
  have hw5':SwR a b L4 L5:=hw5.mono (by omega) (Nat.le_refl _) (by omega)
  have hpt5:=hpt.highS hw5
  exact hKn (a,m,lim,_,y') _ ⟨ha,ham,by show m ≤ b0;omega,hlim,L5,ht22.trans ht5,hw4'.trans (hw5'.mono ha hbb (by rw [hw4'.len];omega)),(hbl4.keep hw5' (Nat.le_refl _) (Nat.le_refl _)).low (Nat.le_of_lt hmb),hpt5.down ordrS (hcr4.keep hw5' ha hbb) hs5⟩ (by show m - a < b - a;omega)
theorem jC {lo:Nat} {w:World} {v:Value} {L:List Str} (hs:Ow lo aD w v (strs L)) (hL:L.length ≤ 1152921504606846976):
  Cal Tryz.prog jW #[v] w fun _ w'=>∃ L':List Str,Ow lo aD w' v (strs L') ∧ Ch (fun c=>v.ownBlock = some c) w w' ∧ List.Perm L' L ∧ L'.Pairwise fun x y=>ltS y x = false:=by
 apply tY;unfold jT
 refine fI hs.sl ?_
 refine C8 (by omega) ?_
 refine iCall ?_
 refine (yC (by omega) w).mono fun r w1 h1=>?_
 obtain ⟨h1,k,rfl,-,-,hk⟩:=h1
 refine iCall ?_
 refine (qU (a:=0) (b:=L.length) (lim:=(k:Int)) L.length (by omega) (hs.ext h1) (Nat.zero_le _) (Nat.le_refl _) hL (fun k _ _ h=>by omega) (by omega)).mono fun _ w2 h2=>?_
 obtain ⟨L',ht,hw,hst⟩:=h2
 rw [← hw.len] at hst
 exact ⟨L',ht.ow,(h1.ch (S:=fun c=>v.ownBlock = some c)).trans ht.ch fun _ e=>.inl e,hw.perm,hst.pairwise⟩
end Go.Proofs.YtbfpohbmgjcjmaaGreatDoor

namespace Go.Vc
abbrev Inc (L:List Str):Prop:=L.Pairwise fun x y=>ltS x y = true
theorem S6 {x:Str} {l:List Str}:Inc (x :: l) ↔ (∀ y ∈ l,ltS x y = true) ∧ Inc l:=List.pairwise_cons
theorem UW:∀ {A B:List Str},Inc A → Inc B → (∀ x,x ∈ A ↔ x ∈ B) → A = B
 | [],[],_,_,_=>rfl
 | [],y :: B,_,_,h=>by have:=(h y).2 List.mem_cons_self;cases this
 | x :: A,[],_,_,h=>by have:=(h x).1 List.mem_cons_self;cases this
 | x :: A,y :: B,hA,hB,h=>by
  rw [S6] at hA hB
  have e:x = y:=by
   rcases List.mem_cons.1 ((h x).1 List.mem_cons_self) with e | e
   ·exact e
   ·rcases List.mem_cons.1 ((h y).2 List.mem_cons_self) with e' | e'
    ·exact e'.symm
    ·have h1:=hB.1 x e
     have h2:=hA.1 y e'
     rw [RF h1] at h2;cases h2
  subst e
  rw [UW hA.2 hB.2 fun z=>?_]
  have hz:=h z
  simp only [List.mem_cons] at hz
  constructor
  ·intro hm
   rcases hz.1 (.inr hm) with e | e
   ·subst e;have:=hA.1 z hm;rw [rZ] at this;cases this
   ·exact e
  ·intro hm
   rcases hz.2 (.inr hm) with e | e
   ·subst e;have:=hB.1 z hm;rw [rZ] at this;cases this
   ·exact e
def insT (t:Str):List Str → List Str
 | []=>[t]
 | x :: l=>if ltS x t then x :: insT t l else if x = t then x :: l else t :: x :: l
theorem NG {t x:Str}:∀ {l:List Str},x ∈ insT t l ↔ x = t ∨ x ∈ l
 | []=>by simp [insT]
 | y :: l=>by
  unfold insT
  split
  ·rw [List.mem_cons,NG,List.mem_cons]
   constructor
   ·rintro (h | h | h)
    ·exact .inr (.inl h)
    ·exact .inl h
    ·exact .inr (.inr h)
   ·rintro (h | h | h)
    ·exact .inr (.inl h)
    ·exact .inl h
    ·exact .inr (.inr h)
  ·split
   ·rename_i h;subst h;simp
   ·simp
theorem SZ {t:Str}:∀ {l:List Str},Inc l → Inc (insT t l)
 | [],_=>by simp [insT]
 | y :: l,h=>by
  unfold insT
  rw [S6] at h
  split
  ·rename_i hy
   refine List.pairwise_cons.2 ⟨fun z hz=>?_,SZ h.2⟩
   rcases NG.1 hz with e | e
   ·subst e;exact hy
   ·exact h.1 z e
  ·rename_i hy
   split
   ·exact List.pairwise_cons.2 h
   ·rename_i hne
    have hty:ltS t y = true:=by
     rcases BZ t y with e | e | e
     ·exact e
     ·exact absurd e.symm hne
     ·exact absurd e hy
    refine List.pairwise_cons.2 ⟨fun z hz=>?_,List.pairwise_cons.2 h⟩
    rcases List.mem_cons.1 hz with e | e
    ·subst e;exact hty
    ·exact BI hty (h.1 z e)
def setT (l:List Str):List Str:=l.foldl (fun a x=>insT x a) []
theorem TN (l:List Str):Inc (setT l):=by
 unfold setT
 suffices h:∀ (l a:List Str),Inc a → Inc (l.foldl (fun a x=>insT x a) a) from h l [] List.Pairwise.nil
 intro l
 induction l with
 | nil=>intro a h;exact h
 | cons x l ih=>intro a h;exact ih _ (SZ h)
theorem pO {x:Str} {l:List Str}:x ∈ setT l ↔ x ∈ l:=by
 unfold setT
 suffices h:∀ (l a:List Str),x ∈ l.foldl (fun a x=>insT x a) a ↔ x ∈ l ∨ x ∈ a by simpa using h l []
 intro l
 induction l with
 | nil=>intro a;simp
 | cons y l ih=>
  intro a
  rw [List.foldl_cons,ih,NG,List.mem_cons]
  constructor
  ·rintro (h | h | h)
   ·exact .inl (.inr h)
   ·exact .inl (.inl h)
   ·exact .inr h
  ·rintro ((h | h) | h)
   ·exact .inr (.inl h)
   ·exact .inl h
   ·exact .inr (.inr h)
theorem TZ (t:Str):∀ l:List Str,(insT t l).length ≤ l.length + 1
 | []=>by simp [insT]
 | x :: l=>by
  have:=TZ t l
  unfold insT
  split <;> (try split) <;> simp [List.length_cons] <;> omega
theorem YM (l:List Str):(setT l).length ≤ l.length:=by
 suffices h:∀ (l a:List Str),(l.foldl (fun a x=>insT x a) a).length ≤ a.length + l.length by simpa [setT] using h l []
 intro l
 induction l with
 | nil=>intro a;simp
 | cons y l ih=>
  intro a
  have:=ih (insT y a)
  have:=TZ y a
  rw [List.foldl_cons,List.length_cons];omega
def ddT:List Str → List Str
 | []=>[]
 | [x]=>[x]
 | x :: y :: l=>if y = x then ddT (y :: l) else x :: ddT (y :: l)
theorem KB {z:Str}:∀ {l:List Str},z ∈ ddT l ↔ z ∈ l
 | []=>Iff.rfl
 | [_]=>Iff.rfl
 | x :: y :: l=>by
  rw [ddT]
  split
  ·rename_i h;subst h;rw [KB];simp
  ·rw [List.mem_cons,KB,List.mem_cons (l:=y :: l)]
theorem QK:∀ {l:List Str},l.Pairwise (fun x y=>ltS y x = false) → Inc (ddT l)
 | [],_=>List.Pairwise.nil
 | [_],_=>by simp [ddT]
 | x :: y :: l,h=>by
  rw [List.pairwise_cons] at h
  rw [ddT]
  split
  ·exact QK h.2
  ·rename_i hne
   refine List.pairwise_cons.2 ⟨fun z hz=>?_,QK h.2⟩
   have hxy:ltS x y = true:=by
    rcases BZ x y with e | e | e
    ·exact e
    ·exact absurd e.symm hne
    ·have:=h.1 y List.mem_cons_self;rw [e] at this;cases this
   rcases List.mem_cons.1 (KB.1 hz) with e | e
   ·subst e;exact hxy
   ·exact ordrS.lt_le hxy ((List.pairwise_cons.1 h.2).1 z e)
theorem LJ {l m:List Str} (h:l.Pairwise fun x y=>ltS y x = false) (hp:List.Perm l m):ddT l = setT m:=
 UW (QK h) (TN m) fun x=>by rw [KB,pO];exact hp.mem_iff
theorem S0:∀ (l:List Str) (x y:Str),ddT (l ++ [x] ++ [y]) = if y = x then ddT (l ++ [x]) else ddT (l ++ [x]) ++ [y]
 | [],x,y=>by simp only [List.nil_append,List.singleton_append,ddT];split <;> simp_all
 | [a],x,y=>by
  simp only [List.cons_append,ddT,List.nil_append]
  by_cases h2:y = x
  ·subst h2
   by_cases h1:y = a
   ·subst h1;simp
   ·simp [h1]
  ·by_cases h1:x = a
   ·subst h1;simp [h2]
   ·simp [h1,h2]
 | a :: b :: l,x,y=>by
  have:=S0 (b :: l) x y
  simp only [List.cons_append] at this ⊢
  rw [ddT,ddT,this]
  by_cases h1:b = a <;> by_cases h2:y = x <;> simp [h1,h2]
theorem M7 {l:List Str} {i:Nat} (h0:1 ≤ i) (hi:i < l.length):ddT (l.take (i + 1)) = if gt l i = gt l (i - 1) then ddT (l.take i) else ddT (l.take i) ++ [gt l i]:=by
 obtain ⟨k,rfl⟩:∃ k,i = k + 1:=⟨i - 1,by omega⟩
 have e1:l.take (k + 1) = l.take k ++ [gt l k]:=by rw [List.take_succ_eq_append_getElem (by omega),gt_eq (by omega)]
 have e2:l.take (k + 1 + 1) = l.take k ++ [gt l k] ++ [gt l (k + 1)]:=by rw [List.take_succ_eq_append_getElem hi,e1,gt_eq hi]
 rw [e2,S0,e1]
 rfl
theorem UO {l:List Str}:∀ k,k ≤ l.length → (∀ i,1 ≤ i → i < k → ¬ gt l i = gt l (i - 1)) → ddT (l.take k) = l.take k:=by
 intro k
 induction k with
 | zero=>intro _ _;rfl
 | succ k ih=>
  intro hk h
  rcases Nat.eq_zero_or_pos k with h0 | h0
  ·subst h0
   cases l with
   | nil=>rfl
   | cons x l=>rfl
  ·rw [M7 h0 (by omega),if_neg (h k h0 (by omega)),ih (by omega) fun i h1 h2=>h i h1 (by omega),List.take_succ_eq_append_getElem (by omega),gt_eq (by omega)]
theorem WT {l:List Str} (h:∀ i,1 ≤ i → i < l.length → ¬ gt l i = gt l (i - 1)):ddT l = l:=by
 have:=UO (l:=l) l.length (Nat.le_refl _) h
 rwa [List.take_length] at this
/-! ### Marks -/
end Go.Vc

namespace Go.Vc
theorem Sl.toK {w:World} {v:Value} {xs:List Value} (h:Sl w v xs):SlK 1 w v xs.length xs:=by
 obtain ⟨a,c,hv,h2,h3,h4⟩:=h
 refine ⟨(Nat.mul_one _).symm,a,c,hv,h2,h3,?_⟩
 rcases h4 with rfl | ⟨b,o,ha,hc⟩
 ·exact .inl rfl
 ·exact .inr ⟨b,o,ha,fun i hi=>hc i (by omega)⟩
theorem SlK.cast {k:Nat} {w:World} {v:Value} {n m:Nat} {xs:List Value} (h:SlK k w v n xs) (e:n = m):SlK k w v m xs:=e ▸ h
theorem RO (L:List Str) (k:Nat):(strs L).take k = strs (L.take k):=by simp [strs,List.map_take]
theorem MI (L:List Str) {j:Nat} (hj:j < L.length):(strs L)[j]? = some (sv (gt L j)):=by rw [gt_eq hj];simp [strs,hj]
theorem ZF {L:List Str} {k i:Nat} (h:i < k):gt (L.take k) i = gt L i:=by unfold gt;simp [List.getD_eq_getElem?_getD,h]
end Go.Vc
namespace Go.Proofs.YtbfpohbmgjcjmaaGreatDoor
open Go.Vc
theorem gU {lo:Nat} {w:World} {v:Value} {L:List Str} (hs:Ow lo aD w v (strs L)) (hL:L.length ≤ 1152921504606846976):
  Cal Tryz.prog gZ #[v] w fun r w'=>Ow lo aD w' r (strs (ddT L)) ∧ Ch (fun c=>v.ownBlock = some c) w w' ∧ r.ownBlock = v.ownBlock:=by
 apply qT;unfold g8
 refine fI hs.sl ?_
 refine iLt ?_
 refine iCndP (fun h=>?_) (fun h=>?_)
 ·rw [WT (fun i h1 h2=>by omega)]
  exact ⟨hs,(Ext.refl w).ch,by first | trivial | rfl⟩
 obtain ⟨g,cap,hv,hcap,hcm⟩:=hs.open (by intro e;have:=cB L;rw [e] at this;simp at this;omega)
 rw [cB] at hv hcap
 refine iLp (fun k:Nat=>[.int .i64 (k:Int)]) (fun k w'=>1 ≤ k ∧ k ≤ L.length ∧ Ext w w' ∧ ∀ i,1 ≤ i → i < k → ¬ gt L i = gt L (i - 1)) (fun k=>L.length - k) 1 rfl ⟨Nat.le_refl _,by omega,Ext.refl _,fun i h1 h2=>by omega⟩ ?_
 rintro k w2 Kn ⟨hk1,hkn,h2,hne⟩ hKn
 have hs2:=hs.ext h2
 intro _
 simp only [gx]
 refine fI hs2.sl ?_
 refine iLt ?_
 refine iCndP (fun h3=>?_) (fun h3=>?_)
 rotate_left
 ·rw [WT (fun i h1 h2=>hne i h1 (by omega))]
  exact ⟨hs2,h2.ch,by first | trivial | rfl⟩
 refine iRdO (j:=k) hs2 rfl (by omega) ?_
 refine iSub (by omega) ?_
 refine iRdO (j:=k - 1) hs2 (by omega) (by omega) ?_
 refine iEqT ?_
 intro w3 h23
 have hs3:=hs2.ext h23
 refine iCndP (fun h4=>?_) (fun h4=>?_)
 rotate_left
 ·refine iAdd (by omega) ?_
  refine hKn (k + 1) _ ⟨by omega,by omega,h2.trans h23,fun i h1 h5=>?_⟩ (by omega)
  by_cases hi:i = k
  ·subst hi;exact h4
  ·exact hne i h1 (by omega)
 subst hv
 refine P6 (k:=k) (by omega) hcap ?_
 refine iLp (fun s:Nat × Nat=>[.int .i64 (s.1:Int),.int .i64 (s.2:Int)]) (fun s w'=>k ≤ s.1 ∧ s.1 + 1 ≤ k + s.2 ∧ k + s.2 ≤ L.length ∧ ∃ M,Turn lo aD sv (.slice (some ⟨g,0,none⟩) L.length cap) w w' M ∧ M.length = L.length ∧ M.take s.1 = ddT (L.take (k + s.2)) ∧ ∀ j,k + s.2 ≤ j + 1 → gt M j = gt L j) (fun s=>L.length - s.2) (k,1) rfl
  ⟨Nat.le_refl _,Nat.le_refl _,by show k + 1 ≤ L.length;omega,L,⟨hs3,(h2.trans h23).ch⟩,rfl,by show L.take k = ddT (L.take (k + 1));rw [M7 hk1 (by omega),if_pos h4,UO k (by omega) hne],fun _ _=>rfl⟩ ?_
 rintro ⟨kk,k2⟩ w5 Kn5 ⟨hkk,hkk2,hk2,M,ht,hM,hMt,hMe⟩ hKn5
 have hkk:k ≤ kk:=hkk
 have hkk2:kk + 1 ≤ k + k2:=hkk2
 have hk2:k + k2 ≤ L.length:=hk2
 have hMt:M.take kk = ddT (L.take (k + k2)):=hMt
 have hMe:∀ j,k + k2 ≤ j + 1 → gt M j = gt L j:=hMe
 intro _
 simp only [gx]
 refine iLenL ?_
 refine iLt ?_
 refine iCndP (fun h5=>?_) (fun h5=>?_)
 ·refine iIaL (j:=k2) (by omega) ?_
  refine iLd (ht.ow.at (by rw [List.length_map];exact hM) (j:=k + k2) (by omega) |>.trans (MI M (by omega))) ?_
  refine iSub (by omega) ?_
  rw [show (k2:Int) - 1 = ((k2 - 1:Nat):Int) by omega]
  refine iIaL (j:=k2 - 1) (by omega) ?_
  refine iLd (ht.ow.at (by rw [List.length_map];exact hM) (j:=k + (k2 - 1)) (by omega) |>.trans (MI M (by omega))) ?_
  refine iNeT ?_
  intro w6 h56
  have ht6:=ht.ext h56
  have e1:=hMe (k + k2) (by omega)
  have e2:=hMe (k + (k2 - 1)) (by omega)
  have edd:=M7 (l:=L) (i:=k + k2) (by omega) (by omega)
  rw [← e1,show k + k2 - 1 = k + (k2 - 1) by omega,← e2] at edd
  refine iCndP (fun h6=>?_) (fun h6=>?_)
  ·rw [if_neg h6,← hMt] at edd
   refine iIaL (j:=k2) (by omega) ?_
   refine iLd (ht6.ow.at (by rw [List.length_map];exact hM) (j:=k + k2) (by omega) |>.trans (MI M (by omega))) ?_
   refine iIaOw ht6.ow (by omega) (by rw [List.length_map];omega) fun b o hb _ _ hc hf hset=>?_
   refine iSt (hc.trans (List.getElem?_eq_getElem (by rw [List.length_map];omega))) hf rfl ?_
   have hset:=hset (sv (gt M (k + k2)))
   rw [Int.toNat_natCast,← List.map_set] at hset
   refine iAdd (by omega) ?_
   refine iAdd (by omega) ?_
   refine hKn5 (kk + 1,k2 + 1) _ ⟨by show k ≤ kk + 1;omega,by show kk + 1 + 1 ≤ k + (k2 + 1);omega,by show k + (k2 + 1) ≤ L.length;omega,M.set kk (gt M (k + k2)),⟨hset,ht6.ch.trans ((Upd.setCell w6 b o _).ch (S:=fun c=>Value.ownBlock (.slice (some ⟨g,0,none⟩) L.length cap) = some c) hb) fun _ e=>.inl e⟩,by rw [List.length_set];exact hM,?_,fun j hj=>?_⟩ (by show L.length - (k2 + 1) < L.length - k2;omega)
   ·show (M.set kk (gt M (k + k2))).take (kk + 1) = ddT (L.take (k + (k2 + 1)))
    rw [show k + (k2 + 1) = k + k2 + 1 by omega,edd,List.take_succ_eq_append_getElem (by rw [List.length_set];omega),List.getElem_set_self,List.take_set_of_le (Nat.le_refl _)]
   ·have hj:k + (k2 + 1) ≤ j + 1:=hj
    rw [I4 _ (by omega),if_neg (by omega)]
    exact hMe j (by omega)
  ·rw [if_pos (Classical.not_not.1 h6),← hMt] at edd
   refine iAdd (by omega) ?_
   exact hKn5 (kk,k2 + 1) _ ⟨hkk,by show kk + 1 ≤ k + (k2 + 1);omega,by show k + (k2 + 1) ≤ L.length;omega,M,ht6,hM,edd.symm,fun j hj=>hMe j (by have hj:k + (k2 + 1) ≤ j + 1:=hj;omega)⟩ (by show L.length - (k2 + 1) < L.length - k2;omega)
 ·have hend:k + k2 = L.length:=by omega
  rw [hend,List.take_length] at hMt
  refine P6 (k:=kk) (by omega) hcap ?_
  refine iClr qH pU rfl ht.ow (by rw [List.length_map];exact hM) (by omega) fun w8 h8 hc8=>?_
  refine U5 (k:=kk) (by omega) hcap ?_
  rw [show (List.map sv M).take kk = strs (M.take kk) from RO M kk,hMt] at h8
  exact ⟨h8,ht.ch.trans hc8 fun c hc=>.inl (by rw [hc];rfl),rfl⟩
theorem CQ {w:World} {v0 v1:Value} {A B:List Str} (h0:SlT w v0 A) (h1:SlT w v1 B) (hc0:aF v0 = true) (hc1:aF v1 = true) (hl:A.length + B.length ≤ 1099511627776):
  Cal Tryz.prog N7 #[v0,v1] w fun r w'=>Ext w w' ∧ Ow w.heap.size aD w' r (strs (setT (A ++ B))):=by
 apply VS;unfold OX
 refine iBs2 rfl hc0 hc1 fun c w1 hc h1' hB=>?_
 refine iCall ((mU (vs:=[v0,v1]) (ps:=[(A.length,strs A),(B.length,strs B)]) (Sl.ofBlk (n:=2) hB rfl (by decide)) rfl (fun i g1 g2=>?_) (fun p hp u hu=>?_) (by simp;omega)).mono ?_)
 ·rcases i with _ | _ | i
  ·exact (Sl.toK (h0.ext h1')).cast (cB A)
  ·exact (Sl.toK (h1.ext h1')).cast (cB B)
  ·simp at g1;omega
 ·simp only [List.mem_cons,List.not_mem_nil,or_false] at hp
  rcases hp with rfl | rfl
  ·exact wP _ _ hu
  ·exact wP _ _ hu
 rintro r w2 ⟨h2,ho⟩
 have hX2:=h1'.trans h2
 have ho2:Ow w1.heap.size aD w2 r (strs (A ++ B)):=by
  have:=ho.toOw
  simpa [strs] using this
 refine iCall ((jC ho2 (by rw [List.length_append];omega)).mono ?_)
 rintro _ w3 ⟨L',ho3,hc3,hperm,hsorted⟩
 have hlen:L'.length = A.length + B.length:=by rw [hperm.length_eq,List.length_append]
 refine iCall ((gU ho3 (by omega)).mono ?_)
 rintro r' w4 ⟨ho4,hc4,_⟩
 rw [LJ hsorted hperm] at ho4
 have hn:∀ c,r.ownBlock = some c → w.heap.size ≤ c:=fun c hc'=>Nat.le_trans h1'.size (ho2.blk c hc').1
 exact ⟨(hX2.thenCh hc3 hn).thenCh hc4 hn,ho4.mono h1'.size⟩
end Go.Proofs.YtbfpohbmgjcjmaaGreatDoor


namespace Go.Vc
theorem iNew3 {w:World} {e:TypeId} {a b c:Value} {K:Value → World → Prop} (h:∀ q w',q = w.heap.size ∧ w'.heap.size = q + 1 → Ext w w' → Blk e w' q [a,b,c] → K (.pointer (some ⟨q,0,none⟩)) w'):xNew (Value.cells (.agg #[a,b,c])) e w K:=
 iNew fun q w' h1 h2 h3=>h q w' h1 h2 (by simpa [Value.cells] using h3)
theorem iStU {w:World} {e:TypeId} {b i:Nat} {cs:List Value} {v:Value} {K:World → Prop} (hB:Blk e w b cs) (hi:i < cs.length) (hv:aF v = true) (h:∀ w',Blk e w' b (cs.set i v) → Upd b w w' → K w'):xSt w (.pointer (some ⟨b,i,none⟩)) v K:=
 iStB hB hi hv fun h2=>h _ h2 (Upd.setCell w b i v)
/-! ### What is asked of items -/
end Go.Vc



namespace Go.Vc
theorem iIaG {w:World} {v:Value} {L:List Str} {z:Int} {j:Nat} {k:IntKind} {K:Value → Prop} (hs:SlT w v L) (hz:z = (j:Int)) (hj:j < L.length) (h:K (sv (gt L j))):xIa 1 v (.int k z) fun p=>xLd w p K:=by
 subst hz
 exact iIaT hs hj fun p hp=>iLd hp (by rw [← gt_eq hj];exact h)
end Go.Vc
namespace Go.Proofs.YtbfpohbmgjcjmaaGreatDoor
open Go.Vc
theorem gX {v:Value} {L:List Str} {t:Str} {w:World} (hs:SlT w v L):Ret Tryz.prog gI #[v,sv t] w (.bool (decide (t ∈ L))):=by
 apply pQ;unfold gQ
 have hln:=hs.len
 rw [cB] at hln
 refine iCall (Cal.mono (R:=fun r w'=>Ext w w' ∧ ∃ z:Int,r = .int .i64 z ∧ (decide (0 ≤ z) = decide (t ∈ L))) ?_ ?_)
 ·apply sI;unfold jB
  refine fI hs ?_
  refine iLp (fun i:Nat=>[.int .i64 (i:Int)]) (fun i w'=>i ≤ L.length ∧ Ext w w' ∧ ∀ j,j < i → ¬ t = gt L j) (fun i=>L.length - i) 0 rfl ⟨Nat.zero_le _,Ext.refl _,fun j hj=>by omega⟩ ?_
  rintro i w2 Kn ⟨hi,h2,hno⟩ hKn
  intro _
  simp only [gx]
  refine iLt ?_
  refine iCndP (fun h=>?_) (fun h=>?_)
  ·refine iIaG (hs.ext h2) rfl (by omega) ?_
   refine iEqT ?_
   refine iCndP (fun h3=>?_) (fun h3=>?_)
   ·refine ⟨h2,_,rfl,?_⟩
    rw [decide_eq_true (show t ∈ L by rw [h3,gt_eq (show i < L.length by omega)];exact List.getElem_mem _)]
    simp
   ·refine iAdd (by omega) ?_
    refine hKn (i + 1) _ ⟨by omega,h2,fun j hj=>?_⟩ (by omega)
    by_cases hji:j = i
    ·subst hji;exact h3
    ·exact hno j (by omega)
  ·refine ⟨h2,-1,rfl,?_⟩
   rw [decide_eq_false (show ¬ t ∈ L from fun hm=>by
    obtain ⟨j,hj,e⟩:=List.getElem_of_mem hm
    exact hno j (by omega) (by rw [gt_eq hj];exact e.symm))]
   rfl
 ·rintro r w1 ⟨h1,z,rfl,hz⟩
  refine iLe ?_
  rw [hz]
  exact ⟨by first | trivial | rfl,h1⟩
end Go.Proofs.YtbfpohbmgjcjmaaGreatDoor

namespace Go.Vc
def schT:List Str:=[[112,62,113,62,112],[40,112,62,113,62,114,41,62,40,112,62,113,41,62,112,62,114],[112,38,113,62,112],[112,38,113,62,113],[112,62,113,62,112,38,113],[112,62,112,124,113],[113,62,112,124,113],[40,112,62,114,41,62,40,113,62,114,41,62,112,124,113,62,114],[70,62,112],[126,126,112,62,112],[91,93,40,112,62,113,41,62,91,93,112,62,91,93,113],[60,62,112,62,126,91,93,126,112],[126,91,93,126,112,62,60,62,112],[91,93,112,62,112],[91,93,112,62,91,93,91,93,112],[60,62,112,62,91,93,60,62,112],[112,62,91,93,60,62,112],[91,93,112,62,60,62,112],[91,93,40,91,93,112,62,112,41,62,91,93,112]]
theorem WR:∀ k:Fin 19,gt schT k.val = (schF k.val).body:=by decide
theorem wA:∀ k:Fin 19,(schF k.val).size ≤ 40:=by decide
theorem BU {k:Nat} (hk:k < 19):(schF k).good:=by
 rcases (show k = 0 ∨ k = 1 ∨ k = 2 ∨ k = 3 ∨ k = 4 ∨ k = 5 ∨ k = 6 ∨ k = 7 ∨ k = 8 ∨ k = 9 ∨ k = 10 ∨ k = 11 ∨ k = 12 ∨ k = 13 ∨ k = 14 ∨ k = 15 ∨ k = 16 ∨ k = 17 ∨ k = 18 by omega) with h | h | h | h | h | h | h | h | h | h | h | h | h | h | h | h | h | h | h <;> subst h <;> simp [schF,UK,Fm.good]
theorem yM {f:Fm} (hg:f.good) (hs:f.size ≤ 40):pCode f.body = 0:=by
 have hl:=body_len f
 have e:=PQ hg
 unfold pCode
 rw [if_neg (by omega),if_pos (by unfold rdOk;rw [e];rfl)]
 rw [show (rd f.body).1 = f by rw [e],if_neg (by omega)]
theorem U0 {k:Nat} (hk:k < 19):pCode (gt schT k) = 0 ∧ (rd (gt schT k)).1 = schF k:=by
 have h1:=WR ⟨k,hk⟩
 have h1:gt schT k = (schF k).body:=h1
 rw [h1]
 exact ⟨yM (BU hk) (wA ⟨k,hk⟩),by rw [PQ (BU hk)]⟩
theorem iIaAZ {len b j:Nat} {k:IntKind} {K:Value → Prop} (hj:j < len) (h:K (.pointer (some ⟨b,j,none⟩))):xIaA len 1 (.pointer (some ⟨b,0,none⟩)) (.int k (j:Int)) K:=by
 refine ⟨_,_,_,rfl,rfl,by omega,by omega,?_⟩
 rw [Int.toNat_natCast,Nat.mul_one,bF,Nat.zero_add]
 exact h
theorem iBsCZ {w:World} {e:TypeId} {z:Value} {n:Nat} {ps:List (Nat × Value)} {K:Value → World → Prop} (L:List Str) (hf:Instr.fill (fun i=>some (i * 1,1)) ((Array.range (n * 1)).map (fun i=>(Value.cells z)[i % (Value.cells z).size]!)) ps = some (strs L).toArray)
  (h:∀ b w',b = w.heap.size → Ext w w' → Blk e w' b (strs L) → K (.slice (some ⟨b,0,none⟩) n n) w'):xBs e (Value.cells z) 1 n ps w K:=
 ⟨_,hf,h _ _ rfl (Ext.alloc w _) (Blk.new w (strs L).toArray e)⟩
end Go.Vc
namespace Go.Proofs.YtbfpohbmgjcjmaaGreatDoor
open Go.Vc
def SchOk (w:World):Prop:=∀ i,i < 19 → w.cell? ⟨0,i,none⟩ = some (sv (gt schT i))
theorem SchOk.ext {w w':World} (h:SchOk w) (x:Ext w w'):SchOk w':=fun i hi=>by
 have h1:=h i hi
 have hlt:0 < w.heap.size:=by
  rcases Nat.lt_or_ge 0 w.heap.size with h | h
  ·exact h
  ·simp [World.cell?,Array.getElem?_eq_none h] at h1
 rw [← h1];simp only [World.cell?];rw [x.block _ hlt]
theorem QH {k:Nat} (hk:k < 19) {w:World} (hT:SchOk w):Cal Tryz.prog G0 #[.int .i64 (k:Int)] w fun r w'=>Ext w w' ∧ FmW w.heap.size w' r (schF k):=by
 apply SK;unfold GR
 refine iIaAZ hk (iLd (hT k hk) ?_)
 refine iCall ((nE (gt schT k) w).mono ?_)
 rintro r w1 ⟨x1,h1,-⟩
 obtain ⟨e1,e2⟩:=U0 hk
 exact ⟨x1,by rw [← e2];exact h1 e1⟩
theorem nV {k:Nat} (hk:k < 19) (w:World):Cal Tryz.prog pR #[.int .i64 (k:Int)] w fun r w'=>Ext w w' ∧ FmW w.heap.size w' r (schF k):=by
 apply M5;unfold AB
 refine iCall (Cal.mono (R:=fun r w'=>Ext w w' ∧ SlT w' r schT) ?_ ?_)
 ·apply OE;unfold B6
  refine iBsCZ schT (by kernel_rfl) fun b w1 hb x1 hB=>⟨x1,Sl.ofBlk (n:=19) hB rfl (by decide)⟩
 rintro u w1 ⟨x1,hu⟩
 refine iIaG hu rfl (show k < schT.length from hk) ?_
 refine iCall ((OY (gt schT k) w1).mono ?_)
 rintro _ w2 ⟨x2,v,rfl,hv⟩
 obtain ⟨e1,e2⟩:=U0 hk
 refine iE20 (iE21 ⟨x1.trans x2,?_⟩)
 rw [← e2]
 exact OwK.mono (hv e1) x1.size
end Go.Proofs.YtbfpohbmgjcjmaaGreatDoor

namespace Go.Vc
abbrev RawS (w:World) (v:Value) (N:List RN):Prop:=SlK 2 w v N.length (aU N)
theorem ST {N:List RN} {j:Nat} (hj:j < N.length) (o:Nat):goN (N.drop j) (o + 1) = goN (N.drop (j + 1)) (o + arZ N[j].1):=by
 rw [List.drop_eq_getElem_cons hj];rfl
def endN (N:List RN) (i:Nat):Int:=match goN (N.drop i) 1 with
 | some R=>((N.length - R.length:Nat):Int)
 | none=>-1
theorem UH:∀ (N:List RN) (o:Nat) (R:List RN),goN N o = some R → R.length ≤ N.length
 | N,0,R,h=>by rw [FL] at h;cases h;exact Nat.le_refl _
 | [],_ + 1,_,h=>by cases h
 | q :: N,o + 1,R,h=>by
  rw [SX] at h
  have:=UH N _ R h
  rw [List.length_cons];omega
theorem Q2 {N:List RN} (h:N.all okN = true) (hp:0 < N.length):decide (endN N 0 = (N.length:Int)) = treeN N:=by
 unfold treeN endN
 rw [h,Bool.true_and,List.drop_zero]
 cases hg:goN N 1 with
 | none=>
  refine decide_eq_decide.2 ⟨fun e=>?_,fun e=>by cases e⟩
  have e:(-1:Int) = (N.length:Int):=e
  omega
 | some R=>
  have hl:=UH N 1 R hg
  refine decide_eq_decide.2 ⟨fun e=>?_,fun e=>?_⟩
  ·have e:((N.length - R.length:Nat):Int) = (N.length:Int):=e
   have:R = []:=List.length_eq_zero_iff.1 (by omega)
   rw [this]
  ·cases e
   show ((N.length - 0:Nat):Int) = _
   rw [Nat.sub_zero]
theorem VI {q:RN} (h:okN q = true):∃ k s:Nat,q = ((k:Int),(s:Int)) ∧ k ≤ 6 ∧ s ≤ 5:=by
 obtain ⟨⟨h1,h2⟩,⟨h3,h4⟩,_⟩:=PS.1 h
 obtain ⟨a,b⟩:=q
 have h1:0 ≤ a:=h1
 have h2:a ≤ 6:=h2
 have h3:0 ≤ b:=h3
 have h4:b ≤ 5:=h4
 refine ⟨a.toNat,b.toNat,?_,by omega,by omega⟩
 rw [Int.toNat_of_nonneg h1,Int.toNat_of_nonneg h3]
end Go.Vc
namespace Go.Proofs.YtbfpohbmgjcjmaaGreatDoor
open Go.Vc
theorem NM {v:Value} {N:List RN} {i:Nat} {w:World} (hs:RawS w v N) (hok:N.all okN = true) (hi:i ≤ N.length) (hn:N.length ≤ 1099511627776):Ret Tryz.prog t7 #[v,.int .i64 (i:Int)] w (.int .i64 (endN N i)):=by
 apply E9;unfold uG
 refine iLp (fun s:Nat × Nat=>[.int .i64 (s.1:Int),.int .i64 (s.2:Int)]) (fun s w'=>Ext w w' ∧ s.1 ≤ N.length ∧ s.2 ≤ 1 + 2 * s.1 ∧ goN (N.drop s.1) s.2 = goN (N.drop i) 1) (fun s=>N.length - s.1) (i,1) rfl ⟨Ext.refl _,hi,by show 1 ≤ 1 + 2 * i;omega,rfl⟩ ?_
 rintro ⟨j,o⟩ w2 Kn ⟨x2,hj,ho,hg⟩ hKn
 have hj:j ≤ N.length:=hj
 have ho:o ≤ 1 + 2 * j:=ho
 have hg:goN (N.drop j) o = goN (N.drop i) 1:=hg
 intro _
 simp only [gx]
 refine iLt (iCndP (fun h3=>?_) (fun h3=>?_))
 ·obtain ⟨o',rfl⟩:∃ o',o = o' + 1:=⟨o - 1,by omega⟩
  refine iLenK (SlK.ext hs x2) ?_
  refine iLe (iCndP (fun h4=>?_) (fun h4=>?_))
  ·obtain rfl:j = N.length:=by omega
   rw [List.drop_length] at hg
   refine ⟨?_,x2⟩
   unfold endN
   rw [← hg];rfl
  ·have hj1:j < N.length:=by omega
   have hat:=iD hj1
   obtain ⟨k,s,hq,hk6,_⟩:=VI (List.all_eq_true.1 hok _ (List.getElem_mem hj1))
   refine iSub (by omega) ?_
   refine iFld (f:=0) (SlK.ext hs x2) rfl hj1 (by decide) hat.1 ?_
   have e1:N[j].1 = (k:Int):=by rw [hq]
   rw [e1]
   refine iRet (zJ k w2) fun w3 x3=>?_
   have hak:arity k ≤ 2:=by unfold arity;split;omega;split <;> omega
   refine iAdd (by omega) (iAdd (by omega) ?_)
   rw [show ((o' + 1:Nat):Int) - 1 + (arity k:Int) = ((o' + arity k:Nat):Int) by omega]
   refine hKn (j + 1,o' + arity k) _ ⟨x2.trans x3,by show j + 1 ≤ N.length;omega,by show o' + arity k ≤ 1 + 2 * (j + 1);omega,?_⟩ (by show N.length - (j + 1) < N.length - j;omega)
   show goN (N.drop (j + 1)) (o' + arity k) = _
   rw [← hg,ST hj1,e1,UL]
 ·obtain rfl:o = 0:=by omega
  rw [FL] at hg
  refine ⟨?_,x2⟩
  unfold endN
  rw [← hg]
  show Value.int .i64 (j:Int) = .int .i64 ((N.length - (N.drop j).length:Nat):Int)
  rw [List.length_drop,show N.length - (N.length - j) = j by omega]
theorem NX {v:Value} {N:List RN} {w:World} (hs:RawS w v N) (hn:N.length ≤ 1099511627776):Ret Tryz.prog C0 #[v] w (.bool (treeN N)):=by
 apply QL;unfold EW
 refine iLp (fun i:Nat=>[.int .i64 (i:Int)]) (fun i w'=>i ≤ N.length ∧ Ext w w' ∧ (N.take i).all okN = true) (fun i=>N.length - i) 0 rfl ⟨Nat.zero_le _,Ext.refl _,by simp⟩ ?_
 rintro i w2 Kn ⟨hi,x2,hall⟩ hKn
 have hs2:=SlK.ext hs x2
 intro _
 simp only [gx]
 refine iLenK hs2 ?_
 refine iLt (iCndP (fun h3=>?_) (fun h3=>?_))
 ·have hi1:i < N.length:=by omega
  have hat:=iD hi1
  refine iJnB (!okN N[i]) w2 (fun J hJ=>?_) (fun w4 x4=>?_)
  ·refine iFld (f:=0) hs2 rfl hi1 (by decide) hat.1 ?_
   refine iRet (iB _ _ _ w2) fun w5 x5=>?_
   refine iNot ?_
   have hs5:=SlK.ext hs2 x5
   by_cases c1:0 ≤ N[i].1 ∧ N[i].1 ≤ 6
   ·rw [decide_eq_true c1]
    refine iCndF rfl ?_
    refine iFld (f:=1) hs5 rfl hi1 (by decide) hat.2 ?_
    refine iRet (iB _ _ _ w5) fun w6 x6=>?_
    have hs6:=SlK.ext hs5 x6
    refine iNot ?_
    by_cases c2:0 ≤ N[i].2 ∧ N[i].2 ≤ 5
    ·rw [decide_eq_true c2]
     refine iCndF rfl ?_
     refine iFld (f:=0) hs6 rfl hi1 (by decide) hat.1 ?_
     refine iNe (iCndP (fun c3=>?_) (fun c3=>?_))
     ·refine iFld (f:=1) hs6 rfl hi1 (by decide) hat.2 ?_
      refine iNe ?_
      have:(!okN N[i]) = decide (¬ N[i].2 = 0):=by
       unfold okN
       rw [decide_eq_true c1,decide_eq_true c2,decide_eq_false c3,Bool.true_and,Bool.true_and,Bool.false_or,← decide_not]
      rw [this] at hJ
      exact hJ _ (x5.trans x6)
     ·have c3:N[i].1 = 0:=Classical.not_not.1 c3
      have:(!okN N[i]) = false:=by
       unfold okN
       rw [decide_eq_true c1,decide_eq_true c2,decide_eq_true c3];rfl
      rw [this] at hJ
      exact hJ _ (x5.trans x6)
    ·rw [decide_eq_false c2]
     refine iCndT rfl ?_
     have:(!okN N[i]) = true:=by
      unfold okN
      rw [decide_eq_false c2,Bool.false_and,Bool.and_false];rfl
     rw [this] at hJ
     exact hJ _ (x5.trans x6)
   ·rw [decide_eq_false c1]
    refine iCndT rfl ?_
    have:(!okN N[i]) = true:=by
     unfold okN
     rw [decide_eq_false c1,Bool.false_and];rfl
    rw [this] at hJ
    exact hJ _ x5
  ·intro _
   cases hb:okN N[i] with
   | false=>
    refine iCndT (by first | rfl | exact congrArg not hb) ?_
    refine ⟨?_,x2.trans x4⟩
    have:treeN N = false:=by
     unfold treeN
     have:N.all okN = false:=by
      rw [List.all_eq_false]
      exact ⟨N[i],List.getElem_mem hi1,by rw [hb];decide⟩
     rw [this,Bool.false_and]
    rw [this]
   | true=>
    refine iCndF (by first | rfl | exact congrArg not hb) ?_
    refine iAdd (by omega) ?_
    refine hKn (i + 1) _ ⟨by omega,x2.trans x4,?_⟩ (by omega)
    rw [List.take_succ_eq_append_getElem hi1,List.all_append,hall]
    simp [hb]
 ·obtain rfl:i = N.length:=by omega
  rw [List.take_length] at hall
  refine iJnB (treeN N) w2 (fun J hJ=>?_) (fun w8 x8=>fun _=>⟨rfl,x2.trans x8⟩)
  refine iLenK hs2 ?_
  refine iLt (iCndP (fun h4=>?_) (fun h4=>?_))
  ·have hp:0 < N.length:=by omega
   refine iRet (NM (i:=0) hs2 hall (Nat.zero_le _) hn) fun w9 x9=>?_
   refine iLenK (SlK.ext hs2 x9) ?_
   refine iEq ?_
   rw [Q2 hall hp]
   exact hJ _ x9
  ·have h0:N = []:=List.length_eq_zero_iff.1 (by omega)
   subst h0
   exact hJ _ (Ext.refl _)
theorem lG {v:Value} {N:List RN} {w:World} (hs:RawS w v N) (hn:N.length ≤ 1099511627776):Ret Tryz.prog IK #[v] w (.bool (isN N)):=by
 apply SS;unfold JM
 refine iJnB (isN N) w (fun J hJ=>?_) (fun w2 x2=>fun _=>⟨rfl,x2⟩)
 refine iLenK hs ?_
 unfold isN at hJ
 refine iLe (iCndP (fun h=>?_) (fun h=>?_))
 ·rw [decide_eq_true (by omega),Bool.true_and] at hJ
  refine iRet (NX hs hn) fun w3 x3=>hJ _ x3
 ·rw [decide_eq_false (by omega),Bool.false_and] at hJ
  exact hJ _ (Ext.refl _)
end Go.Proofs.YtbfpohbmgjcjmaaGreatDoor

namespace Go.Vc
def Rx (e:TypeId) (w:World) (g cap:Nat) (cur:List Value):Prop:=Blk e w g cur ∧ cur.length = cap * 2 ∧ cap ≤ 9223372036854775807
theorem OwK.rx {lo n:Nat} {e:TypeId} {w:World} {v:Value} {xs:List Value} (h:OwK 2 lo e w v n xs) (hn:0 < n):
  ∃ g cap cur,v = .slice (some ⟨g,0,none⟩) n cap ∧ lo ≤ g ∧ n ≤ cap ∧ Rx e w g cap cur ∧ cur.take (n * 2) = xs:=by
 obtain ⟨_,⟨_,h0⟩ | ⟨g,cap,cur,hv,hg,hh,h1,h2,h3,h4⟩⟩:=h
 ·omega
 ·exact ⟨g,cap,cur.toList,hv,hg,h1,⟨by unfold Blk;rw [Array.toArray_toList];exact hh,by simpa using h3,h2⟩,h4⟩
section
variable {P:Program} {w:World} {e:TypeId} {g cap:Nat} {cur:List Value}
theorem Rx.own {lo n:Nat} {xs:List Value} (h:Rx e w g cap cur) (hl:lo ≤ g) (hn:n ≤ cap) (hx:cur.take (n * 2) = xs):OwK 2 lo e w (.slice (some ⟨g,0,none⟩) n cap) n xs:=
 ⟨by rw [← hx,List.length_take,h.2.1];omega,.inr ⟨g,cap,cur.toArray,rfl,hl,h.1,hn,h.2.2,by simpa using h.2.1,by simpa using hx⟩⟩
theorem Rx.ext {w':World} (h:Rx e w g cap cur) (x:Ext w w'):Rx e w' g cap cur:=⟨h.1.ext x,h.2⟩
def putX (cur:List Value) (o:Nat) (ys:List Value):List Value:=cur.take o ++ ys ++ cur.drop (o + ys.length)
theorem YX {cur:List Value} {o:Nat} {ys:List Value} (h:o + ys.length ≤ cur.length):(putX cur o ys).length = cur.length:=by
 unfold putX;rw [List.length_append,List.length_append,List.length_take,List.length_drop];omega
theorem WX {cur:List Value} {o n:Nat} {ys:List Value} (h:o + ys.length ≤ cur.length) (hn:n = o + ys.length):(putX cur o ys).take n = cur.take o ++ ys:=by
 unfold putX
 have hl:(cur.take o ++ ys).length = n:=by rw [List.length_append,List.length_take];omega
 rw [List.take_append_of_le_length (by omega),List.take_of_length_le (by omega)]
theorem Rx.set (h:Rx e w g cap cur) {cur':List Value} (hl:cur'.length = cur.length):Rx e (w.setRow g cur'.toArray) g cap cur' ∧ Ch (fun c=>c = g) w (w.setRow g cur'.toArray):=
 ⟨⟨setRow_heap w g cur.toArray _ e (0,0) h.1,by rw [hl];exact h.2.1,h.2.2⟩,⟨rfl,rfl,rfl,by rw [setRow_size];exact Nat.le_refl _,fun c _ hc=>setRow_other w g c _ hc⟩⟩
theorem SlK.srcX {k m:Nat} {x:Value} {ys:List Value} (hs:SlK k w x m ys):∃ a c,x = .slice a m c ∧ ys.length = m * k ∧ ((a = none ∧ m = 0) ∨ ∃ ad,a = some ad ∧ ∀ j u,ys[j]? = some u → w.cell? (ad.add j) = some u):=by
 obtain ⟨hyl,a,c,rfl,hlc,hcm,hcells⟩:=hs
 refine ⟨a,c,rfl,hyl,?_⟩
 rcases hcells with rfl | ⟨b,o,rfl,hc⟩
 ·cases a with
  | none=>exact .inl ⟨rfl,rfl⟩
  | some ad=>
   refine .inr ⟨ad,rfl,fun j u hu=>?_⟩
   have:ys = []:=List.length_eq_zero_iff.1 (by omega)
   rw [this] at hu;simp at hu
 ·refine .inr ⟨_,rfl,fun j u hu=>?_⟩
  have hj:j < ys.length:=(List.getElem?_eq_some_iff.1 hu).1
  rw [bF,hc j (by omega),hu]
theorem aAA {t ty:TypeId} {i m bytes:Nat} {x z:Value} {ys:List Value} {K:Value → World → Prop} (ht:P.underlying t = some (.slice e)) (hi:(P.info? e).map (fun i=>(i.zero,i.size,i.bytes)) = some (some z,2,bytes))
  (hR:Rx e w g cap cur) (hs:SlK 2 w x m ys) (hy:∀ u ∈ ys,aF u = true) (hroom:i + m ≤ cap)
  (h:∀ w',Rx e w' g cap (putX cur (i * 2) ys) → Ch (fun c=>c = g) w w' → K (.slice (some ⟨g,0,none⟩) (i + m) cap) w'):
  xOp P (Builtin.append_ #[t,t] ty #[.slice (some ⟨g,0,none⟩) i cap,x]) w K:=by
 obtain ⟨inf,hi,h3⟩:=Option.map_eq_some_iff.1 hi
 simp only [Prod.mk.injEq] at h3
 obtain ⟨-,hsz,-⟩:=h3
 obtain ⟨a,c,rfl,hyl,⟨rfl,rfl⟩ | ⟨ad,rfl,hsrc⟩⟩:=hs.srcX
 ·have:ys = []:=List.length_eq_zero_iff.1 (by omega)
  subst this
  refine ⟨_,w,?_,h w (by simpa [putX] using hR) ⟨rfl,rfl,rfl,Nat.le_refl _,fun _ _ _=>rfl⟩⟩
  have:i ≤ cap:=by omega
  simp [Builtin.append_,run_underlying ht,sizeOf,typeInfo,hi,Builtin.lenOf,Builtin.firstCells,this,storeCells]
 ·have hl3:=hR.2.1
  have hr:=run_append_room (P:=P) w t ty e inf ht hi g i cap cur.toArray hR.1 ad m c ys (by rw [hsz];exact hyl) hsrc (fun u hu=>kJ (hy u hu)) hroom (by simp [hsz];omega)
  rw [hsz] at hr
  obtain ⟨h1,h2⟩:=hR.set (cur':=putX cur (i * 2) ys) (YX (by omega))
  exact ⟨_,_,hr,h _ h1 h2⟩
end
/-! ### Parts of slices of elements of two cells -/
theorem iHX {g o n c k:Nat} {ki:IntKind} {K:Value → Prop} (hk:k ≤ c) (h:K (.slice (some ⟨g,o,none⟩) k c)):xSl 2 (.slice (some ⟨g,o,none⟩) n c) none (some (.int ki (k:Int))) K:=by
 refine ⟨_,_,_,0,k,rfl,⟨ki,rfl⟩,rfl,Nat.zero_le _,hk,?_⟩
 have e:(if c = 0 then some (⟨g,o,none⟩:Addr) else (some (⟨g,o,none⟩:Addr)).map (·.add (0 * 2))) = some ⟨g,o,none⟩:=by
  split
  ·rfl
  ·rw [Option.map_some,bF,Nat.zero_mul,Nat.add_zero]
 rw [e,Nat.sub_zero,Nat.sub_zero]
 exact h
/-! ### Rows of a count and a slice -/
section
variable {P:Program} {w:World}
theorem iStFX {lo:Nat} {e:TypeId} {w:World} {v x:Value} {n:Nat} {xs:List Value} {z:Int} {j f:Nat} {k:IntKind} {K:World → Prop} (hs:OwK 2 lo e w v n xs) (hz:z = (j:Int)) (hj:j < n) (hf:f < 2) (hx:aF x = true)
  (h:∀ w',OwK 2 lo e w' v n (xs.set (j * 2 + f) x) → Ch (fun c=>v.ownBlock = some c) w w' → K w'):xIa 2 v (.int k z) fun p=>xFa f p fun q=>xSt w q x K:=by
 subst hz
 obtain ⟨hl,⟨-,h0⟩ | ⟨g,cap,cur,hv,hg,hh,h1,h2,h3,h4⟩⟩:=hs
 ·omega
 ·subst hv
  have hs:w.ownsRow lo e 2 (.slice (some ⟨g,0,none⟩) n cap) n xs:=⟨hl,.inr ⟨g,cap,cur,rfl,hg,hh,h1,h2,h3,h4⟩⟩
  refine ⟨_,_,_,_,_,rfl,rfl,by omega,by omega,?_⟩
  rw [Int.toNat_natCast,bF]
  refine ⟨_,rfl,?_⟩
  rw [bF,Nat.zero_add]
  have hjf:j * 2 + f < xs.length:=by omega
  refine iSt ((hs.cellAt (j * 2 + f) (by omega)).trans (List.getElem?_eq_getElem hjf)) (hs.frozenAt _) hx ?_
  exact h _ (hs.stored (j * 2 + f) x).1 ((Upd.setCell w g _ x).ch rfl)
theorem iTY {k n i:Nat} {ki:IntKind} {w:World} {v:Value} {xs:List Value} {z:Int} {K:Value → Prop} (hs:SlK k w v n xs) (hz:z = (i:Int)) (hi:i ≤ n) (h:∀ v',SlK k w v' (n - i) (xs.drop (i * k)) → K v'):xSl k v (some (.int ki z)) none K:=by
 subst hz
 obtain ⟨h0,a,c,rfl,h2,h3,h4⟩:=hs
 have hle:i * k ≤ n * k:=Nat.mul_le_mul_right _ hi
 have hsub:(n - i) * k = n * k - i * k:=Nat.sub_mul ..
 refine ⟨_,_,_,i,n,rfl,rfl,⟨ki,rfl⟩,hi,h2,?_⟩
 refine h _ ⟨by rw [List.length_drop];omega,_,_,rfl,by omega,by omega,?_⟩
 rcases Nat.eq_zero_or_pos (n - i) with hz | hz
 ·exact .inl hz
 ·rcases h4 with h4 | ⟨b,o,rfl,hc⟩
  ·omega
  ·refine .inr ⟨b,o + i * k,?_,fun j hj=>?_⟩
   ·rw [if_neg (by omega),Option.map_some,bF]
   ·rw [Nat.add_assoc,hc _ (by omega),List.getElem?_drop]
end
end Go.Vc

namespace Go.Vc
abbrev RawW (lo:Nat) (e:TypeId) (w:World) (v:Value) (N:List RN):Prop:=OwK 2 lo e w v N.length (aU N)
theorem OwK.ne_src {k lo n:Nat} {e e':TypeId} {w0 w:World} {vc v:Value} {b:Nat} {xs:List Value} (h:OwK k lo e' w v n xs) (hS:Vc.Src e w0 vc b w) (hne:e' ≠ e):v.ownBlock ≠ some b:=by
 intro hc
 obtain ⟨cur,h1⟩:=h.ty hc
 obtain ⟨_,_,_,_,h3,_⟩:=hS
 unfold Blk at h3
 rw [h1] at h3
 injection h3 with h3
 injection h3 with _ he _
 exact hne he
theorem OwK.src {k lo n:Nat} {e e':TypeId} {w0 w w':World} {vc v:Value} {b:Nat} {xs:List Value} (h:OwK k lo e' w v n xs) (hS:Vc.Src e w0 vc b w) (hne:e' ≠ e) (hch:Ch (fun c=>c = b) w w'):OwK k lo e' w' v n xs:=
 h.ch hch fun c hc hb=>h.ne_src hS hne (by rw [hc,hb])
def preF (y:Nat) (a:Fm):Fm:=if y = 0 then .box a else .dia a
theorem VZ {y:Nat} (hy:y < 2) (a:Fm):(preF y a).cells = nd (5 + y) 0 ++ a.cells:=by
 have:y = 0 ∨ y = 1:=by omega
 rcases this with rfl | rfl <;> rfl
theorem JV (y:Nat) (a:Fm):(preF y a).size = 1 + a.size:=by unfold preF;split <;> rfl
theorem XQ (y:Nat) {a:Fm} (h:a.good):(preF y a).good:=by unfold preF;split <;> exact h
def binF (z:Nat) (a b:Fm):Fm:=if z = 0 then .and a b else if z = 1 then .or a b else .imp a b
theorem VX {z:Nat} (hz:z < 3) (a b:Fm):(binF z a b).cells = nd (2 + z) 0 ++ a.cells ++ b.cells:=by
 have:z = 0 ∨ z = 1 ∨ z = 2:=by omega
 rcases this with rfl | rfl | rfl <;> rfl
theorem JR (z:Nat) (a b:Fm):(binF z a b).size = 1 + a.size + b.size:=by unfold binF;split;rfl;split <;> rfl
theorem XH (z:Nat) {a b:Fm} (h:a.good) (k:b.good):(binF z a b).good:=by unfold binF;split;exact ⟨h,k⟩;split <;> exact ⟨h,k⟩
theorem UB (N:List RN) (k:Nat) (hk:k < N.length) (x:Int):(aU N).set (k * 2 + 0) (.int .i64 x) = aU (N.set k (x,N[k].2)):=by
 induction N generalizing k with
 | nil=>simp at hk
 | cons q N ih=>
  cases k with
  | zero=>rfl
  | succ k=>
   have ih:=ih k (by simpa using hk)
   show (Value.int .i64 q.1 :: Value.int .i64 q.2 :: aU N).set ((k + 1) * 2 + 0) _ = Value.int .i64 q.1 :: Value.int .i64 q.2 :: aU (N.set k _)
   rw [Nat.add_zero] at ih
   rw [show (k + 1) * 2 + 0 = k * 2 + 1 + 1 by omega,List.set_cons_succ,List.set_cons_succ,ih]
   rfl
theorem UF (N:List RN) (k:Nat) (hk:k < N.length) (x:Int):(aU N).set (k * 2 + 1) (.int .i64 x) = aU (N.set k (N[k].1,x)):=by
 induction N generalizing k with
 | nil=>simp at hk
 | cons q N ih=>
  cases k with
  | zero=>rfl
  | succ k=>
   have ih:=ih k (by simpa using hk)
   show (Value.int .i64 q.1 :: Value.int .i64 q.2 :: aU N).set ((k + 1) * 2 + 1) _ = Value.int .i64 q.1 :: Value.int .i64 q.2 :: aU (N.set k _)
   rw [show (k + 1) * 2 + 1 = (k * 2 + 1) + 1 + 1 by omega,List.set_cons_succ,List.set_cons_succ,ih]
   rfl
theorem L6 (N:List RN) (k:Nat):(aU N).take (k * 2) = aU (N.take k):=by
 induction N generalizing k with
 | nil=>simp [aU]
 | cons q N ih=>
  cases k with
  | zero=>simp [aU]
  | succ k=>
   rw [dO,List.take_succ_cons,dO,← ih k,show (k + 1) * 2 = (rcell q).length + k * 2 by show _ = 2 + k * 2;omega,List.take_length_add_append]
theorem UD (N:List RN) (k:Nat):(aU N).drop (k * 2) = aU (N.drop k):=by
 induction N generalizing k with
 | nil=>simp [aU]
 | cons q N ih=>
  cases k with
  | zero=>simp
  | succ k=>
   rw [dO,List.drop_succ_cons,← ih k,show (k + 1) * 2 = (rcell q).length + k * 2 by show _ = 2 + k * 2;omega,List.drop_length_add_append]
theorem uV (N:List RN):∀ u ∈ aU N,aF u = true:=fun u hu=>by
 obtain ⟨q,_,hq⟩:=List.mem_flatMap.1 hu
 simp only [rcell,List.mem_cons,List.not_mem_nil,or_false] at hq
 rcases hq with rfl | rfl <;> rfl
theorem iBs5D {w:World} {e:TypeId} {a b c d f:Int} {K:Value → World → Prop} (h:∀ bb w',bb = w.heap.size ∧ w'.heap.size = bb + 1 → Ext w w' → Blk e w' bb (ints [a,b,c,d,f]) → K (.slice (some ⟨bb,0,none⟩) 5 5) w'):
  xBs e (Value.cells (.int .i64 0)) 1 5 [(0,.int .i64 a),(1,.int .i64 b),(2,.int .i64 c),(3,.int .i64 d),(4,.int .i64 f)] w K:=by
 refine ⟨#[.int .i64 a,.int .i64 b,.int .i64 c,.int .i64 d,.int .i64 f],?_,h _ _ ⟨rfl,by simp⟩ (Ext.alloc w _) (Blk.new w #[.int .i64 a,.int .i64 b,.int .i64 c,.int .i64 d,.int .i64 f] e)⟩
 simp [Instr.fill,Value.cells,show Array.range 5 = #[0,1,2,3,4] from rfl]
end Go.Vc
namespace Go.Proofs.YtbfpohbmgjcjmaaGreatDoor
open Go.Vc
theorem N5 {e:TypeId} (hneN:aA ≠ e) {w0:World} {vc:Value} {bs:List Nat} (hc:SlB w0 vc bs) {b k:Nat} (hk:1 ≤ k ∧ k ≤ 6) (m:Bool):∀ (n:Nat) {w:World},Vc.Src e w0 vc b w → 1 ≤ n → n ≤ 1000 →
  Drw Tryz.prog DJ #[.pointer (some ⟨b,0,none⟩),.int .i64 (n:Int),.int .i64 (k:Int),.bool m] e w0 vc b w fun r w'=>∃ f:Fm,f.good ∧ f.size ≤ n ∧ FmW w.heap.size w' r f:=by
 intro n
 induction n using Nat.strongRecOn with
 | _ n ih=>
 intro w hS hn1 hn2
 apply QW;unfold C2
 refine iJnX (fun xs w'=>(∃ t,xs = [.bool t] ∧ (t = false → 3 ≤ n)) ∧ Vc.Src e w0 vc b w' ∧ Ch (fun c=>c = b) w w') (fun J hJ=>?_) ?_
 ·refine iLe (iCndP (fun h=>?_) (fun h=>?_))
  ·exact hJ _ _ ⟨⟨true,rfl,fun h=>by cases h⟩,hS,(Ext.refl w).ch⟩
  ·refine iCall ((aI hc hS 9).mono ?_)
   rintro _ w3 ⟨⟨x,rfl,_,_⟩,hS3,hch3⟩
   refine iEq ?_
   exact hJ _ _ ⟨⟨_,rfl,fun _=>by omega⟩,hS3,hch3⟩
 rintro _ w2 ⟨⟨t,rfl,ht⟩,hS2,hC2⟩
 intro _
 cases t with
 | true=>
  refine iCndT rfl ?_
  refine iCall ((aI hc hS2 8).mono ?_)
  rintro _ w4 ⟨⟨x,rfl,_,_⟩,hS4,hch4⟩
  have hC4:=aE hC2 hch4
  refine iEq (iCndP (fun _=>?_) (fun _=>?_))
  ·refine iCall ((gR w4).mono ?_)
   rintro u w5 ⟨x5,h5⟩
   exact ⟨⟨.fls,trivial,hn1,OwK.mono h5 hC4.size⟩,hS4.later x5,aT hC4 x5⟩
  ·refine iCall ((aI hc hS4 k).mono ?_)
   rintro _ w6 ⟨⟨y,rfl,hy,_⟩,hS6,hch6⟩
   have hy:=hy (by omega)
   refine iCall ((uI y w6).mono ?_)
   rintro u w7 ⟨x7,h7⟩
   have hC6:=aE hC4 hch6
   exact ⟨⟨.var y,show y < 6 by omega,hn1,OwK.mono h7 hC6.size⟩,hS6.later x7,aT hC6 x7⟩
 | false=>
  refine iCndF rfl ?_
  have h3:=ht rfl
  refine iJnX (fun xs w'=>(∃ t,xs = [.bool t]) ∧ Vc.Src e w0 vc b w' ∧ Ch (fun c=>c = b) w w') (fun J hJ=>?_) ?_
  ·cases m with
   | true=>
    refine iCndT rfl ?_
    refine iCall ((aI hc hS2 3).mono ?_)
    rintro _ w10 ⟨⟨x,rfl,_,_⟩,hS10,hch10⟩
    refine iEq ?_
    exact hJ _ _ ⟨⟨_,rfl⟩,hS10,aE hC2 hch10⟩
   | false=>exact iCndF rfl (hJ _ _ ⟨⟨_,rfl⟩,hS2,hC2⟩)
  rintro _ w9 ⟨⟨t,rfl⟩,hS9,hC9⟩
  intro _
  cases t with
  | true=>
   refine iCndT rfl ?_
   refine iCall ((aI hc hS9 2).mono ?_)
   rintro _ w11 ⟨⟨y,rfl,hy,_⟩,hS11,hch11⟩
   have hy:=hy (by omega)
   have hC11:=aE hC9 hch11
   refine iAdd (by omega) (iSub (by omega) ?_)
   rw [show (5:Int) + (y:Int) = ((5 + y:Nat):Int) by omega,show (n:Int) - 1 = ((n - 1:Nat):Int) by omega]
   refine iCall ((ih (n - 1) (by omega) hS11 (by omega) (by omega)).mono ?_)
   rintro u w12 ⟨⟨a,ga,sa,ha⟩,hS12,hch12⟩
   have hC12:=aE hC11 hch12
   refine iCall ((jK (c:=preF y a) (VZ (by omega) a) (JV y a) ha.sl (by rw [JV];omega)).mono ?_)
   rintro r w13 ⟨x13,hr⟩
   exact ⟨⟨preF y a,XQ y ga,by rw [JV];omega,OwK.mono hr hC12.size⟩,hS12.later x13,aT hC12 x13⟩
  | false=>
   refine iCndF rfl ?_
   refine iCall ((aI hc hS9 6).mono ?_)
   rintro _ w14 ⟨⟨y,rfl,_,_⟩,hS14,hch14⟩
   have hC14:=aE hC9 hch14
   refine iEq (iCndP (fun _=>?_) (fun _=>?_))
   ·refine iSub (by omega) ?_
    rw [show (n:Int) - 2 = ((n - 2:Nat):Int) by omega]
    refine iCall ((ih (n - 2) (by omega) hS14 (by omega) (by omega)).mono ?_)
    rintro u w15 ⟨⟨a,ga,sa,ha⟩,hS15,hch15⟩
    have hC15:=aE hC14 hch15
    refine iCall ((t9 ha.sl (by omega)).mono ?_)
    rintro r w16 ⟨x16,hr⟩
    exact ⟨⟨.imp a .fls,⟨ga,trivial⟩,by show 1 + a.size + 1 ≤ n;omega,OwK.mono hr hC15.size⟩,hS15.later x16,aT hC15 x16⟩
   ·refine iSub (by omega) ?_
    refine iCall ((aI hc hS14 _).mono ?_)
    rintro _ w17 ⟨⟨z,rfl,hz,_⟩,hS17,hch17⟩
    have hz:=hz (by omega)
    have hC17:=aE hC14 hch17
    refine iAdd (by omega) ?_
    rw [show (1:Int) + (z:Int) = ((1 + z:Nat):Int) by omega]
    refine iCall ((ih (1 + z) (by omega) hS17 (by omega) (by omega)).mono ?_)
    rintro u w18 ⟨⟨a,ga,sa,ha⟩,hS18,hch18⟩
    have hC18:=aE hC17 hch18
    refine iCall ((aI hc hS18 3).mono ?_)
    rintro _ w19 ⟨⟨q,rfl,hq,_⟩,hS19,hch19⟩
    have hq:=hq (by omega)
    have hC19:=aE hC18 hch19
    have ha19:=OwK.src ha hS18 hneN hch19
    refine iAdd (by omega) (iSub (by omega) (iSub (by omega) ?_))
    rw [show (2:Int) + (q:Int) = ((2 + q:Nat):Int) by omega,show (n:Int) - 1 - ((1 + z:Nat):Int) = ((n - 1 - (1 + z):Nat):Int) by omega]
    refine iCall ((ih (n - 1 - (1 + z)) (by omega) hS19 (by omega) (by omega)).mono ?_)
    rintro u2 w20 ⟨⟨a2,ga2,sa2,ha2⟩,hS20,hch20⟩
    have hC20:=aE hC19 hch20
    have ha20:=OwK.src ha19 hS19 hneN hch20
    refine iCall ((cK (c:=binF q a a2) (VX (by omega) a a2) (JR q a a2) ha20.sl ha2.sl (by rw [JR];omega)).mono ?_)
    rintro r w21 ⟨x21,hr⟩
    exact ⟨⟨binF q a a2,XH q ga ga2,by rw [JR];omega,OwK.mono hr hC20.size⟩,hS20.later x21,aT hC20 x21⟩
theorem dQ {va:Value} {w:World} {N:List RN} (ha:RawS w va N) (hsz:N.length ≤ 1000000):Cal Tryz.prog GS #[va] w fun r w'=>Ext w w' ∧ RawW w.heap.size aA w' r N:=by
 apply SC;unfold GN
 refine iBsA0 fun u w1 _ x1 ho=>?_
 refine iAppK cA cC rfl (by omega) ho (SlK.ext ha x1) (uV N) (by omega) (by omega) x1.size fun v2 w2 ho2 hg2 _=>?_
 refine ⟨x1.grown hg2 fun c hc=>(ho.blk c hc).1,?_⟩
 show OwK 2 _ _ w2 v2 _ _
 rw [Nat.zero_add,List.nil_append] at ho2
 exact ho2
theorem OC {e:TypeId} (hneN:aA ≠ e) {w0:World} {vc:Value} {bs:List Nat} (hc:SlB w0 vc bs) {b:Nat} {w:World} (hS:Vc.Src e w0 vc b w) {va:Value} {N:List RN} (ha:RawS w va N) (hN:1 ≤ N.length ∧ N.length ≤ 1000):
  Drw Tryz.prog E1 #[.pointer (some ⟨b,0,none⟩),va] e w0 vc b w fun r w'=>∃ M:List RN,M.length ≤ N.length + 1 ∧ RawW w.heap.size aA w' r M:=by
 apply QF;unfold DY
 have hlow:=hS.ext.size
 refine iCall ((dQ ha (by omega)).mono ?_)
 rintro v w1 ⟨x1,ho1⟩
 have hS1:=hS.later x1
 have hC1:Ch (fun c=>c = b) w w1:=x1.ch (S:=fun c=>c = b)
 refine iLenK ho1.sl ?_
 refine iCall ((aI hc hS1 _).mono ?_)
 rintro _ w2 ⟨⟨k,rfl,hk,_⟩,hS2,hch2⟩
 have hk:=hk (by omega)
 have hkN:k < N.length:=by omega
 have ho2:=OwK.src ho1 hS1 hneN hch2
 have hC2:=aE hC1 hch2
 refine iCall ((aI hc hS2 5).mono ?_)
 rintro _ w3 ⟨⟨x,rfl,_,_⟩,hS3,hch3⟩
 have ho3:=OwK.src ho2 hS2 hneN hch3
 have hC3:=aE hC2 hch3
 have turn:∀ {w' w'':World} {xs:List Value},OwK 2 w.heap.size aA w' v N.length xs → Vc.Src e w0 vc b w' → Ch (fun c=>c = b) w w' → Ch (fun c=>v.ownBlock = some c) w' w'' → Vc.Src e w0 vc b w'' ∧ Ch (fun c=>c = b) w w'':=fun ho gS gC k=>
  ⟨gS.ch k (fun h=>ho.ne_src gS hneN h) fun c hc=>by have:=(ho.blk c hc).1;omega,gC.trans k fun c hc=>.inr (ho.blk c hc).1⟩
 refine iEq (iCndP (fun _=>?_) (fun _=>?_))
 ·refine iCall ((aI hc hS3 9).mono ?_)
  rintro _ w4 ⟨⟨y,rfl,hy,_⟩,hS4,hch4⟩
  have hy:=hy (by omega)
  have ho4:=OwK.src ho3 hS3 hneN hch4
  have hC4:=aE hC3 hch4
  refine iSub (by omega) ?_
  refine iStFX (f:=0) ho4 rfl hkN (by decide) rfl fun w5 ho5 hch5=>?_
  rw [UB N k hkN] at ho5
  obtain ⟨gS,gC⟩:=turn ho4 hS4 hC4 hch5
  exact ⟨⟨N.set k (_,N[k].2),by rw [List.length_set];omega,by show OwK 2 _ _ _ _ (N.set k _).length _;rw [List.length_set];exact ho5⟩,gS,gC⟩
 refine iEq (iCndP (fun _=>?_) (fun _=>?_))
 ·refine iBs5D fun q w6 hq x6 hB=>?_
  have hS6:=hS3.later x6
  refine iCall ((PF hc hS6 (l:=[-1,0,1,5,6]) rfl hB (by have:=hS3.lt;omega) (by decide) (by decide)).mono ?_)
  rintro _ w7 ⟨⟨y,rfl,_⟩,hS7,hch7⟩
  have ho7:=OwK.src (ho3.ext x6) hS6 hneN hch7
  have hC7:=aE (aT hC3 x6) hch7
  refine iStFX (f:=1) ho7 rfl hkN (by decide) rfl fun w8 ho8 hch8=>?_
  rw [UF N k hkN] at ho8
  obtain ⟨gS,gC⟩:=turn ho7 hS7 hC7 hch8
  exact ⟨⟨N.set k (N[k].1,_),by rw [List.length_set];omega,by show OwK 2 _ _ _ _ (N.set k _).length _;rw [List.length_set];exact ho8⟩,gS,gC⟩
 refine iEq (iCndP (fun _=>?_) (fun _=>?_))
 ·refine iCall ((aI hc hS3 7).mono ?_)
  rintro _ w9 ⟨⟨y,rfl,_,_⟩,hS9,hch9⟩
  have ho9:=OwK.src ho3 hS3 hneN hch9
  have hC9:=aE hC3 hch9
  refine KG rfl ?_
  refine iBsA fun q w10 hq x10 hB=>?_
  have ho10:=ho9.ext x10
  have hC10:=aT hC9 x10
  refine iAppK cA cC rfl (by omega) ho10 (gP hq hB).sl (fun u hu=>?_) (by omega) (by omega) hC10.size fun v11 w11 ho11 hg11 _=>?_
  ·simp only [List.mem_cons,List.not_mem_nil,or_false] at hu
   rcases hu with rfl | rfl <;> rfl
  obtain ⟨gS,gC⟩:=turn ho10 (hS9.later x10) hC10 (bJ (S:=fun c=>v.ownBlock = some c) hg11 fun c hc=>hc)
  refine ⟨⟨N ++ [((y:Int),0)],by simp,?_⟩,gS,gC⟩
  show OwK 2 _ _ _ _ (N ++ [_]).length _
  rw [List.length_append,kL]
  exact ho11
 have hpos:0 < N.length:=by omega
 refine iEq (iCndP (fun _=>?_) (fun _=>?_))
 ·obtain ⟨g,cap,cur,rfl,hg,hcap,hR,hcur⟩:=ho3.rx hpos
  refine iHX (by omega) ?_
  refine ⟨⟨N.take k,by rw [List.length_take];omega,?_⟩,hS3,hC3⟩
  have hlt:(N.take k).length = k:=by rw [List.length_take];omega
  show OwK 2 _ _ _ _ (N.take k).length _
  rw [hlt]
  refine hR.own hg (by omega) ?_
  rw [← L6,← hcur,List.take_take,Nat.min_eq_left (by omega)]
 refine iEq (iCndP (fun _=>?_) (fun _=>?_))
 ·obtain ⟨g,cap,cur,rfl,hg,hcap,hR,hcur⟩:=ho3.rx hpos
  refine iHX (by omega) ?_
  refine iAdd (by omega) ?_
  have hsl:=ho3.sl
  refine iTY (i:=k + 1) hsl (by omega) (by omega) fun v' hv'=>?_
  rw [UD] at hv'
  intro w12 x12
  refine aAA (i:=k) (m:=N.length - (k + 1)) cA cC (hR.ext x12) (hv'.ext x12) (uV _) (by omega) fun w13 hR13 hch13=>?_
  intro w14 x14
  have hR14:=hR13.ext x14
  have ho12:=ho3.ext x12
  obtain ⟨gS,gC⟩:=turn ho12 (hS3.later x12) (aT hC3 x12) (w'':=w13) (hch13.mono fun c hc=>by rw [hc];rfl)
  have hld:(N.drop (k + 1)).length = N.length - (k + 1):=List.length_drop
  have hlt:(N.take k ++ N.drop (k + 1)).length = k + (N.length - (k + 1)):=by rw [List.length_append,List.length_take,hld];omega
  refine ⟨⟨N.take k ++ N.drop (k + 1),by rw [hlt];omega,?_⟩,gS.later x14,aT gC x14⟩
  show OwK 2 _ _ _ _ (N.take k ++ N.drop (k + 1)).length _
  rw [hlt]
  refine hR14.own hg (by omega) ?_
  have hcl:=hR.2.1
  have hdl:(aU (N.drop (k + 1))).length = (N.length - (k + 1)) * 2:=by rw [OF,hld]
  rw [WX (by rw [hdl];omega) (by rw [hdl];omega),kL,← L6,← hcur,List.take_take,Nat.min_eq_left (by omega)]
 ·exact ⟨⟨N,by omega,ho3⟩,hS3,hC3⟩
end Go.Proofs.YtbfpohbmgjcjmaaGreatDoor

namespace Go.Vc
theorem iSlKZ {w:World} {k:Nat} {v:Value} {n i j:Nat} {xs:List Value} {ki kj:IntKind} {K:Value → Prop} (hs:SlK k w v n xs) (hi:i ≤ j) (hj:j ≤ n) (h:∀ r,aF r = true → (∀ w',SlK k w' v n xs → SlK k w' r (j - i) ((xs.drop (i * k)).take ((j - i) * k))) → K r):xSl k v (some (.int ki (i:Int))) (some (.int kj (j:Int))) K:=by
 obtain ⟨h0,a,c,rfl,h2,h3,h4⟩:=hs
 have hik:i * k ≤ j * k:=Nat.mul_le_mul_right _ hi
 have hjk:j * k ≤ n * k:=Nat.mul_le_mul_right _ hj
 refine ⟨_,_,_,i,j,rfl,⟨kj,rfl⟩,⟨ki,rfl⟩,hi,by omega,h _ rfl ?_⟩
 rintro w' ⟨_,a',c',e',_,_,h4'⟩
 cases e'
 refine ⟨?_,_,_,rfl,by omega,by omega,?_⟩
 ·rw [List.length_take,List.length_drop,Nat.sub_mul];omega
 ·rcases h4' with rfl | ⟨b,o,rfl,hc⟩
  ·exact .inl (by omega)
  ·by_cases hz:j - i = 0
   ·exact .inl hz
   ·refine .inr ⟨b,o + i * k,by rw [if_neg (by omega),Option.map_some,bF],fun m hm=>?_⟩
    rw [Nat.sub_mul] at hm ⊢
    rw [Nat.add_assoc,hc _ (by omega),List.getElem?_take,if_pos hm,List.getElem?_drop]
theorem iWrO {e:TypeId} {lo:Nat} {w:World} {v x:Value} {xs:List Value} {z:Int} {j:Nat} {k:IntKind} {K:World → Prop} (hs:Ow lo e w v xs) (hz:z = (j:Int)) (hj:j < xs.length) (hx:aF x = true)
  (h:∀ w',Ow lo e w' v (xs.set j x) → Ch (fun c=>v.ownBlock = some c) w w' → K w'):xIa 1 v (.int k z) fun p=>xSt w p x K:=by
 subst hz
 obtain ⟨_,⟨_,h0⟩ | ⟨g,cap,cur,rfl,hg,hh,h1,h2,h3,h4⟩⟩:=hs
 ·omega
 have hB:Blk e w g cur.toList:=by unfold Blk;rw [Array.toArray_toList];exact hh
 refine ⟨_,_,_,_,_,rfl,rfl,by omega,by omega,?_⟩
 rw [Int.toNat_natCast,bF,Nat.zero_add,Nat.mul_one]
 have hcl:cur.toList.length = cap:=by simpa using h3
 refine iStU hB (by omega) hx fun w' hB' hu=>?_
 refine h w' ⟨by rw [Nat.mul_one],.inr ⟨g,cap,(cur.toList.set j x).toArray,by rw [List.length_set],hg,hB',by rw [List.length_set];exact h1,h2,by simpa using h3,?_⟩⟩ (hu.ch (S:=fun c=>_ = some c) rfl)
 rw [List.length_set,List.take_set,h4]
theorem NC {f:Fm} (h:f.good):∀ g ∈ f.kids,g.good:=fun g hg=>by
 cases f with
 | var _=>cases hg
 | fls=>cases hg
 | and a b=>
  simp only [Fm.kids,List.mem_cons,List.not_mem_nil,or_false] at hg
  rcases hg with rfl | rfl
  ·exact h.1
  ·exact h.2
 | or a b=>
  simp only [Fm.kids,List.mem_cons,List.not_mem_nil,or_false] at hg
  rcases hg with rfl | rfl
  ·exact h.1
  ·exact h.2
 | imp a b=>
  simp only [Fm.kids,List.mem_cons,List.not_mem_nil,or_false] at hg
  rcases hg with rfl | rfl
  ·exact h.1
  ·exact h.2
 | box a=>rw [List.mem_singleton.1 hg];exact h
 | dia a=>rw [List.mem_singleton.1 hg];exact h
structure ImgW (eN ei ek:TypeId) (w0 w:World) (vi vk:Value) (g:Nat → Option Fm):Prop where
 img:∃ us,us.length = 6 ∧ Ow w0.heap.size ei w vi us ∧ ∀ v y,v < 6 → g v = some y → ∃ u,us[v]? = some u ∧ OwK 2 w0.heap.size eN w u y.size y.cells ∧ y.size ≤ 1000000
 kn:∃ bs,bs.length = 6 ∧ Ow w0.heap.size ek w vk bs ∧ ∀ v,v < 6 → bs[v]? = some (.bool (g v).isSome)
theorem ImgW.ext {eN ei ek:TypeId} {w0 w w':World} {vi vk:Value} {g:Nat → Option Fm} (h:ImgW eN ei ek w0 w vi vk g) (x:Ext w w'):ImgW eN ei ek w0 w' vi vk g:=
 let ⟨us,a1,a2,a3⟩:=h.img
 let ⟨bs,b1,b2,b3⟩:=h.kn
 ⟨⟨us,a1,a2.ext x,fun v y hv hg=>let ⟨u,c1,c2,c3⟩:=a3 v y hv hg;⟨u,c1,OwK.ext c2 x,c3⟩⟩,⟨bs,b1,b2.ext x,b3⟩⟩
theorem ImgW.known {eN ei ek:TypeId} {w0 w:World} {vi vk:Value} {g:Nat → Option Fm} {v:Nat} {k:IntKind} {K:Value → Prop} (h:ImgW eN ei ek w0 w vi vk g) (hv:v < 6) (hK:K (.bool (g v).isSome)):xIa 1 vk (.int k (v:Int)) fun p=>xLd w p K:=by
 obtain ⟨bs,b1,b2,b3⟩:=h.kn
 refine iIa (j:=(v:Int)) b2.sl (by omega) (by omega) fun p hp=>?_
 rw [Int.toNat_natCast,b3 v hv] at hp
 exact iLd hp hK
theorem ImgW.get {eN ei ek:TypeId} {w0 w:World} {vi vk:Value} {g:Nat → Option Fm} {v:Nat} {y:Fm} {k:IntKind} {K:Value → Prop} (h:ImgW eN ei ek w0 w vi vk g) (hv:v < 6) (hg:g v = some y) (hK:∀ u,SlK 2 w u y.size y.cells → y.size ≤ 1000000 → K u):xIa 1 vi (.int k (v:Int)) fun p=>xLd w p K:=by
 obtain ⟨us,a1,a2,a3⟩:=h.img
 obtain ⟨u,c1,c2,c3⟩:=a3 v y hv hg
 refine iIa (j:=(v:Int)) a2.sl (by omega) (by omega) fun p hp=>?_
 rw [Int.toNat_natCast,c1] at hp
 exact iLd hp (hK u c2.sl c3)
structure MtI (w:World) (p a:Fm) (s:Nat × Nat × List Fm × List Fm × (Nat → Option Fm)) (w':World):Prop where
 d0:p.cells.drop (s.1 * 2) = aJ s.2.2.1 ++ []
 d1:a.cells.drop (s.2.1 * 2) = aJ s.2.2.2.1 ++ []
 s0:s.1 + sizeL s.2.2.1 = p.size
 s1:s.2.1 + sizeL s.2.2.2.1 = a.size
 ll:s.2.2.1.length = s.2.2.2.1.length
 gd:∀ f ∈ s.2.2.1,f.good
 ex:Ext w w'
 mt:aY (sizeL s.2.2.1) s.2.2.1 s.2.2.2.1 s.2.2.2.2 = aY p.size [p] [a] fun _=>none
end Go.Vc
namespace Go.Proofs.YtbfpohbmgjcjmaaGreatDoor
open Go.Vc
theorem rY (w:World):Cal Tryz.prog uP #[] w fun r w'=>Ext w w' ∧ ∃ us,us.length = 6 ∧ Ow w.heap.size aB w' r us:=by
 apply QE;unfold DH
 refine iBs0 fun v3 w1 _ x1 ho1=>?_
 refine iLp (fun s:Value × Nat=>[s.1,.int .i64 (s.2:Int)]) (fun s w'=>s.2 ≤ 6 ∧ Ext w w' ∧ ∃ us,us.length = s.2 ∧ Ow w.heap.size aB w' s.1 us) (fun s=>6 - s.2) (v3,0) rfl ⟨Nat.zero_le _,x1,[],rfl,ho1⟩ ?_
 rintro ⟨z,i⟩ w3 Kn ⟨hi,x3,us,hl,ho⟩ hKn
 have hi:i ≤ 6:=hi
 have hl:us.length = i:=hl
 have ho:Ow w.heap.size aB w3 z us:=ho
 intro _
 simp only [gx]
 refine iLt (iCndP (fun hlt=>?_) (fun hlt=>⟨x3,us,by omega,ho⟩))
 refine iCall ((uI i w3).mono ?_)
 rintro u w4 ⟨x4,hu⟩
 refine iP pL pJ rfl (ho.ext x4) (OwK.cell hu) (by omega) (by omega) (x3.trans x4).size fun z' w6 ho6 hg6 _=>?_
 refine iAdd (by omega) ?_
 exact hKn (z',i + 1) _ ⟨by show i + 1 ≤ 6;omega,(x3.trans x4).grown hg6 fun c hc=>(ho.blk c hc).1,_,by rw [List.length_append,hl];rfl,ho6⟩ (by show 6 - (i + 1) < 6 - i;omega)
theorem M8 {v0 v1:Value} {p a:Fm} {w:World} (h0:FmS w v0 p) (h1:FmS w v1 a) (hp:p.good) (hps:p.size ≤ 1000000) (has:a.size ≤ 1000000):Cal Tryz.prog AX #[v0,v1] w fun r w'=>Ext w w' ∧ ∃ u,r = .tuple #[u,.bool (aY p.size [p] [a] fun _=>none).isSome]:=by
 apply OQ;unfold A4
 intro w1 x1
 constructor
 ·refine iCall ((rY w1).mono ?_)
  rintro v12 w2 ⟨x2,us,hul,hus⟩
  intro w3 x3
  refine iMk (n:=6) (by decide) (by decide) rfl fun b w4 hb x4 hB=>?_
  intro w5 x5
  have X5:Ext w w5:=(((x1.trans x2).trans x3).trans x4).trans x5
  obtain ⟨v13,hv13⟩:∃ v,v = Value.slice (some ⟨b,0,none⟩) 6 6:=⟨_,rfl⟩
  rw [← hv13]
  have hI:ImgW aA aB 4 w w5 v12 v13 fun _=>none:=⟨⟨us,hul,(((hus.ext x3).ext x4).ext x5).mono x1.size,fun v y _ h=>by cases h⟩,⟨List.replicate 6 (.bool false),rfl,by rw [hv13];exact Ow.ofBlk (n:=6) (hB.ext x5) (by have:=((x1.trans x2).trans x3).size;omega) rfl (by decide),fun v hv=>by rw [List.getElem?_replicate,if_pos hv];rfl⟩⟩
  refine iLp (fun s:Nat × Nat × List Fm × List Fm × (Nat → Option Fm)=>[.int .i64 (s.2.1:Int),.int .i64 (s.1:Int)]) (fun s w'=>MtI w p a s w' ∧ ImgW aA aB 4 w w' v12 v13 s.2.2.2.2) (fun s=>p.size - s.1) (0,0,[p],[a],fun _=>none) rfl
   ⟨⟨by simp [aJ],by simp [aJ],by simp [sizeL],by simp [sizeL],rfl,by simpa using hp,X5,rfl⟩,hI⟩ ?_
  rintro ⟨i,at_,fs,xs,g⟩ w7 Kn ⟨⟨hd0,hd1,hs0,hs1,hll,hgd,x7,hm⟩,hI7⟩ hKn
  have hd0:p.cells.drop (i * 2) = aJ fs ++ []:=hd0
  have hd1:a.cells.drop (at_ * 2) = aJ xs ++ []:=hd1
  have hs0:i + sizeL fs = p.size:=hs0
  have hs1:at_ + sizeL xs = a.size:=hs1
  have hll:fs.length = xs.length:=hll
  have hgd:∀ f ∈ fs,f.good:=hgd
  have x7:Ext w w7:=x7
  have hm:aY (sizeL fs) fs xs g = aY p.size [p] [a] fun _=>none:=hm
  have hI7:ImgW aA aB 4 w w7 v12 v13 g:=hI7
  intro _
  simp only [gx]
  refine iLenK (SlK.ext h0 x7) (iLt ?_)
  cases fs with
  | nil=>
   have hx:xs = []:=List.length_eq_zero_iff.1 hll.symm
   subst hx
   simp [sizeL] at hs0 hs1
   refine iCndF (decide_eq_false (by omega)) (iLenK (SlK.ext h1 x7) (iEq ⟨x7,v12,?_⟩))
   rw [← hm,decide_eq_true (by omega)]
   rfl
  | cons f fs=>
   obtain ⟨x,xs,rfl⟩:∃ y ys,xs = y :: ys:=by
    cases xs with
    | nil=>simp at hll
    | cons y ys=>exact ⟨y,ys,rfl⟩
   have sf:sizeL (f :: fs) = f.size + sizeL fs:=by simp [sizeL]
   have sx:sizeL (x :: xs) = x.size + sizeL xs:=by simp [sizeL]
   have pf:=f.size_pos
   have px:=x.size_pos
   obtain ⟨k0,k1,k2⟩:=qK hd0
   obtain ⟨l0,l1,l2⟩:=qK hd1
   refine iCndT (decide_eq_true (by omega)) (iLenK (SlK.ext h1 x7) (iLe (iCndF (decide_eq_false (by omega)) ?_)))
   refine iFld (SlK.ext h0 x7) rfl (by omega) (by decide) k0 ?_
   have hff:f.good:=hgd f (List.mem_cons_self ..)
   refine iNe (iCndP (fun hk=>?_) (fun hk=>?_))
   ·have hk:¬ f.kind = 0:=by omega
    refine iLdK (cs:=#[.int .i64 (f.kind:Int),.int .i64 (f.sym:Int)]) (SlK.ext h0 x7) rfl (by omega) rfl (fun j hj=>by rcases j with _ | _ | j;exact k0;exact k1;omega) ?_
    refine iLdK (cs:=#[.int .i64 (x.kind:Int),.int .i64 (x.sym:Int)]) (SlK.ext h1 x7) rfl (by omega) rfl (fun j hj=>by rcases j with _ | _ | j;exact l0;exact l1;omega) ?_
    refine yR (t0:=2) (t1:=2) (by kernel_rfl) (by kernel_rfl) (by kernel_rfl) (by kernel_rfl) (by kernel_rfl) (by kernel_rfl) ?_
    intro w8 x8
    have hsym:f.kind = x.kind → f.sym = x.sym:=fun e=>by
     cases f <;> cases x <;> first | rfl | exact absurd rfl hk | cases e
    have hst:aY (sizeL (f :: fs)) (f :: fs) (x :: xs) g = if f.kind = x.kind then aY (sizeL (f.kids ++ fs)) (f.kids ++ fs) (x.kids ++ xs) g else none:=by
     have:sizeL (f :: fs) = sizeL (f.kids ++ fs) + 1:=by
      rw [sf,bY]
      have:=f.size_kids
      omega
     rw [this,oH hk]
    rw [hst] at hm
    refine iCndP (fun h=>?_) (fun h=>?_)
    ·have hne:¬ f.kind = x.kind:=fun e=>h ⟨by omega,by have:=hsym e;omega⟩
     rw [if_neg hne] at hm
     refine ⟨x7.trans x8,.slice none 0 0,?_⟩
     rw [← hm];rfl
    ·have he:f.kind = x.kind:=by
      have:=(Classical.not_not.1 h).1
      omega
     rw [if_pos he] at hm
     have hfk:=f.size_kids
     have hxk:=x.size_kids
     refine iAdd (by omega) (iAdd (by omega) ?_)
     refine hKn (i + 1,at_ + 1,f.kids ++ fs,x.kids ++ xs,g) _ ⟨⟨k2,l2,by show i + 1 + sizeL (f.kids ++ fs) = _;rw [bY];omega,by show at_ + 1 + sizeL (x.kids ++ xs) = _;rw [bY];omega,?_,?_,x7.trans x8,hm⟩,ImgW.ext hI7 x8⟩ (by show p.size - (i + 1) < p.size - i;omega)
     ·show (f.kids ++ fs).length = (x.kids ++ xs).length
      rw [List.length_append,List.length_append,FV he]
      have hll:fs.length + 1 = xs.length + 1:=hll
      omega
     ·intro y hy
      rcases List.mem_append.1 hy with hy | hy
      ·exact NC hff y hy
      ·exact hgd y (List.mem_cons_of_mem _ hy)
   ·have hk0:f.kind = 0:=by
     have:=Classical.not_not.1 hk
     omega
    obtain ⟨v,rfl⟩:∃ v,f = .var v:=by
     cases f with
     | var v=>exact ⟨v,rfl⟩
     | _=>cases hk0
    have hv6:v < 6:=hff
    have one:(Fm.var v).size = 1:=rfl
    have hd1':a.cells.drop (at_ * 2) = x.cells ++ aJ xs:=by rw [hd1];simp [aJ]
    refine iRetQ (fun w' x'=>lQ (SlK.ext h1 (x7.trans x')) hd1' (by omega)) ?_
    refine iSlKZ (i:=at_) (j:=at_ + x.size) (SlK.ext h1 x7) (by omega) (by omega) fun u _ hur=>?_
    have hur:∀ w',FmS w' v1 a → FmS w' u x:=fun w' h=>by
     have hu:=hur w' h
     rw [Nat.add_sub_cancel_left,hd1',List.take_append_of_le_length (by rw [x.cells_len];omega),List.take_of_length_le (by rw [x.cells_len];omega)] at hu
     exact hu
    refine iFld (SlK.ext h0 x7) rfl (by omega) (by decide) k1 ?_
    intro w9 x9
    have hI9:=ImgW.ext hI7 x9
    have hu9:FmS w9 u x:=hur w9 (SlK.ext h1 (x7.trans x9))
    have hst:aY (sizeL (Fm.var v :: fs)) (Fm.var v :: fs) (x :: xs) g = if g v = none ∨ g v = some x then aY (sizeL fs) fs xs (updO g v x) else none:=by
     rw [sf,one,Nat.add_comm,aY]
    rw [hst] at hm
    refine iJnX (fun ys w'=>ys = [.bool (!decide (g v = none ∨ g v = some x))] ∧ Ext w9 w') (fun J hJ=>?_) ?_
    ·refine ImgW.known hI9 hv6 ?_
     show cnd (.bool (g v).isSome) _ _
     cases hg:g v with
     | none=>
      refine iCndF rfl (hJ _ _ ⟨?_,Ext.refl _⟩)
      rw [hg];simp
     | some y=>
      refine iCndT rfl (ImgW.get hI9 hv6 hg fun z hz hzs=>?_)
      refine iRet (cW hz hu9 (by omega)) fun w12 x12=>iNot (hJ _ _ ⟨?_,x12⟩)
      rw [hg];simp
    rintro _ w11 ⟨rfl,x11⟩
    intro _
    simp only [gx]
    have X11:=(x7.trans x9).trans x11
    by_cases hok:g v = none ∨ g v = some x
    ·rw [decide_eq_true hok]
     rw [if_pos hok] at hm
     refine iCndF rfl ?_
     have hI11:=ImgW.ext hI9 x11
     obtain ⟨us,a1,a2,a3⟩:=hI11.img
     obtain ⟨bs,b1,b2,b3⟩:=hI11.kn
     refine iWrO (j:=v) b2 rfl (by omega) rfl fun w13 ho13 hc13=>?_
     have X13:Ext w w13:=X11.thenCh hc13 fun c hc=>(b2.blk c hc).1
     have off13:∀ {k n lo:Nat} {e:TypeId} {u:Value} {xs:List Value},OwK k lo e w11 u n xs → e ≠ 4 → OwK k lo e w13 u n xs:=fun h hne=>OwK.ch h hc13 fun c hc hS=>by
      obtain ⟨cur,hh⟩:=b2.ty hS
      exact OwK.ne_blk h (show Blk 4 w11 c cur.toList by unfold Blk;rw [hh]) hne hc
     have a13:Ow w.heap.size aB w13 v12 us:=off13 (k:=1) a2 (by decide)
     refine iCall ((dQ (N:=rawF x) (by
      have:=hur w13 (SlK.ext h1 X13)
      unfold RawS
      rw [aG,a9]
      exact this) (by rw [aG];omega)).mono ?_)
     rintro v71 w14 ⟨x14,hv71⟩
     have hv71:OwK 2 w13.heap.size aA w14 v71 x.size x.cells:=by
      unfold RawW at hv71
      rw [aG,a9] at hv71
      exact hv71
     have a14:=a13.ext x14
     refine iWrO (j:=v) a14 rfl (by omega) (OwK.cell hv71) fun w15 ho15 hc15=>?_
     have X15:Ext w w15:=(X13.trans x14).thenCh hc15 fun c hc=>(a14.blk c hc).1
     have off15:∀ {k n lo:Nat} {e:TypeId} {u:Value} {xs:List Value},OwK k lo e w14 u n xs → e ≠ aB → OwK k lo e w15 u n xs:=fun h hne=>OwK.ch h hc15 fun c hc hS=>by
      obtain ⟨cur,hh⟩:=a14.ty hS
      exact OwK.ne_blk h (show Blk aB w14 c cur.toList by unfold Blk;rw [hh]) hne hc
     refine iLenK (hur w15 (SlK.ext h1 X15)) (iAdd (by omega) (iAdd (by omega) ?_))
     have hd2:a.cells.drop ((at_ + x.size) * 2) = aJ xs ++ []:=by
      rw [show (at_ + x.size) * 2 = at_ * 2 + x.cells.length by rw [x.cells_len];omega,← List.drop_drop,hd1',List.drop_left,List.append_nil]
     refine hKn (i + 1,at_ + x.size,fs,xs,updO g v x) _ ⟨⟨k2,hd2,by show i + 1 + sizeL fs = _;omega,by show at_ + x.size + sizeL xs = _;omega,by have hll:fs.length + 1 = xs.length + 1:=hll;show fs.length = xs.length;omega,fun y hy=>hgd y (List.mem_cons_of_mem _ hy),X15,hm⟩,⟨us.set v v71,by rw [List.length_set];exact a1,ho15,fun k y hk hg=>?_⟩,⟨bs.set v (.bool true),by rw [List.length_set];exact b1,off15 (k:=1) (ho13.ext x14) (by decide),fun k hk=>?_⟩⟩ (by show p.size - (i + 1) < p.size - i;omega)
     ·have hg:updO g v x k = some y:=hg
      unfold updO at hg
      by_cases e:k = v
      ·subst e
       rw [if_pos rfl] at hg
       cases hg
       exact ⟨v71,by rw [List.getElem?_set_self (by omega)],OwK.mono (off15 hv71 (by decide)) X13.size,by omega⟩
      ·rw [if_neg e] at hg
       obtain ⟨u',c1,c2,c3⟩:=a3 k y hk hg
       exact ⟨u',by rw [List.getElem?_set_ne (fun h=>e h.symm)];exact c1,off15 (OwK.ext (off13 c2 (by decide)) x14) (by decide),c3⟩
     ·show (bs.set v (.bool true))[k]? = some (.bool (updO g v x k).isSome)
      unfold updO
      by_cases e:k = v
      ·subst e
       rw [if_pos rfl,List.getElem?_set_self (by omega)];rfl
      ·rw [if_neg e,List.getElem?_set_ne (fun h=>e h.symm)]
       exact b3 k hk
    ·rw [decide_eq_false hok]
     rw [if_neg hok] at hm
     refine iCndT rfl ⟨X11,.slice none 0 0,?_⟩
     rw [← hm];rfl

 ·refine iMk (n:=6) (by decide) (by decide) rfl fun b w16 hb x16 hB=>?_
  intro w17 x17
  refine iCall ((rY w17).mono ?_)
  rintro v12 w18 ⟨x18,us,hul,hus⟩
  intro w5 x19
  have X5:Ext w w5:=(((x1.trans x16).trans x17).trans x18).trans x19
  obtain ⟨v13,hv13⟩:∃ v,v = Value.slice (some ⟨b,0,none⟩) 6 6:=⟨_,rfl⟩
  rw [← hv13]
  have hI:ImgW aA aB 4 w w5 v12 v13 fun _=>none:=⟨⟨us,hul,(hus.ext x19).mono ((x1.trans x16).trans x17).size,fun v y _ h=>by cases h⟩,⟨List.replicate 6 (.bool false),rfl,by rw [hv13];exact Ow.ofBlk (n:=6) (((hB.ext x17).ext x18).ext x19) (by have:=x1.size;omega) rfl (by decide),fun v hv=>by rw [List.getElem?_replicate,if_pos hv];rfl⟩⟩
  refine iLp (fun s:Nat × Nat × List Fm × List Fm × (Nat → Option Fm)=>[.int .i64 (s.2.1:Int),.int .i64 (s.1:Int)]) (fun s w'=>MtI w p a s w' ∧ ImgW aA aB 4 w w' v12 v13 s.2.2.2.2) (fun s=>p.size - s.1) (0,0,[p],[a],fun _=>none) rfl
   ⟨⟨by simp [aJ],by simp [aJ],by simp [sizeL],by simp [sizeL],rfl,by simpa using hp,X5,rfl⟩,hI⟩ ?_
  rintro ⟨i,at_,fs,xs,g⟩ w7 Kn ⟨⟨hd0,hd1,hs0,hs1,hll,hgd,x7,hm⟩,hI7⟩ hKn
  have hd0:p.cells.drop (i * 2) = aJ fs ++ []:=hd0
  have hd1:a.cells.drop (at_ * 2) = aJ xs ++ []:=hd1
  have hs0:i + sizeL fs = p.size:=hs0
  have hs1:at_ + sizeL xs = a.size:=hs1
  have hll:fs.length = xs.length:=hll
  have hgd:∀ f ∈ fs,f.good:=hgd
  have x7:Ext w w7:=x7
  have hm:aY (sizeL fs) fs xs g = aY p.size [p] [a] fun _=>none:=hm
  have hI7:ImgW aA aB 4 w w7 v12 v13 g:=hI7
  intro _
  simp only [gx]
  refine iLenK (SlK.ext h0 x7) (iLt ?_)
  cases fs with
  | nil=>
   have hx:xs = []:=List.length_eq_zero_iff.1 hll.symm
   subst hx
   simp [sizeL] at hs0 hs1
   refine iCndF (decide_eq_false (by omega)) (iLenK (SlK.ext h1 x7) (iEq ⟨x7,v12,?_⟩))
   rw [← hm,decide_eq_true (by omega)]
   rfl
  | cons f fs=>
   obtain ⟨x,xs,rfl⟩:∃ y ys,xs = y :: ys:=by
    cases xs with
    | nil=>simp at hll
    | cons y ys=>exact ⟨y,ys,rfl⟩
   have sf:sizeL (f :: fs) = f.size + sizeL fs:=by simp [sizeL]
   have sx:sizeL (x :: xs) = x.size + sizeL xs:=by simp [sizeL]
   have pf:=f.size_pos
   have px:=x.size_pos
   obtain ⟨k0,k1,k2⟩:=qK hd0
   obtain ⟨l0,l1,l2⟩:=qK hd1
   refine iCndT (decide_eq_true (by omega)) (iLenK (SlK.ext h1 x7) (iLe (iCndF (decide_eq_false (by omega)) ?_)))
   refine iFld (SlK.ext h0 x7) rfl (by omega) (by decide) k0 ?_
   have hff:f.good:=hgd f (List.mem_cons_self ..)
   refine iNe (iCndP (fun hk=>?_) (fun hk=>?_))
   ·have hk:¬ f.kind = 0:=by omega
    refine iLdK (cs:=#[.int .i64 (f.kind:Int),.int .i64 (f.sym:Int)]) (SlK.ext h0 x7) rfl (by omega) rfl (fun j hj=>by rcases j with _ | _ | j;exact k0;exact k1;omega) ?_
    refine iLdK (cs:=#[.int .i64 (x.kind:Int),.int .i64 (x.sym:Int)]) (SlK.ext h1 x7) rfl (by omega) rfl (fun j hj=>by rcases j with _ | _ | j;exact l0;exact l1;omega) ?_
    refine yR (t0:=2) (t1:=2) (by kernel_rfl) (by kernel_rfl) (by kernel_rfl) (by kernel_rfl) (by kernel_rfl) (by kernel_rfl) ?_
    intro w8 x8
    have hsym:f.kind = x.kind → f.sym = x.sym:=fun e=>by
     cases f <;> cases x <;> first | rfl | exact absurd rfl hk | cases e
    have hst:aY (sizeL (f :: fs)) (f :: fs) (x :: xs) g = if f.kind = x.kind then aY (sizeL (f.kids ++ fs)) (f.kids ++ fs) (x.kids ++ xs) g else none:=by
     have:sizeL (f :: fs) = sizeL (f.kids ++ fs) + 1:=by
      rw [sf,bY]
      have:=f.size_kids
      omega
     rw [this,oH hk]
    rw [hst] at hm
    refine iCndP (fun h=>?_) (fun h=>?_)
    ·have hne:¬ f.kind = x.kind:=fun e=>h ⟨by omega,by have:=hsym e;omega⟩
     rw [if_neg hne] at hm
     refine ⟨x7.trans x8,.slice none 0 0,?_⟩
     rw [← hm];rfl
    ·have he:f.kind = x.kind:=by
      have:=(Classical.not_not.1 h).1
      omega
     rw [if_pos he] at hm
     have hfk:=f.size_kids
     have hxk:=x.size_kids
     refine iAdd (by omega) (iAdd (by omega) ?_)
     refine hKn (i + 1,at_ + 1,f.kids ++ fs,x.kids ++ xs,g) _ ⟨⟨k2,l2,by show i + 1 + sizeL (f.kids ++ fs) = _;rw [bY];omega,by show at_ + 1 + sizeL (x.kids ++ xs) = _;rw [bY];omega,?_,?_,x7.trans x8,hm⟩,ImgW.ext hI7 x8⟩ (by show p.size - (i + 1) < p.size - i;omega)
     ·show (f.kids ++ fs).length = (x.kids ++ xs).length
      rw [List.length_append,List.length_append,FV he]
      have hll:fs.length + 1 = xs.length + 1:=hll
      omega
     ·intro y hy
      rcases List.mem_append.1 hy with hy | hy
      ·exact NC hff y hy
      ·exact hgd y (List.mem_cons_of_mem _ hy)
   ·have hk0:f.kind = 0:=by
     have:=Classical.not_not.1 hk
     omega
    obtain ⟨v,rfl⟩:∃ v,f = .var v:=by
     cases f with
     | var v=>exact ⟨v,rfl⟩
     | _=>cases hk0
    have hv6:v < 6:=hff
    have one:(Fm.var v).size = 1:=rfl
    have hd1':a.cells.drop (at_ * 2) = x.cells ++ aJ xs:=by rw [hd1];simp [aJ]
    refine iRetQ (fun w' x'=>lQ (SlK.ext h1 (x7.trans x')) hd1' (by omega)) ?_
    refine iSlKZ (i:=at_) (j:=at_ + x.size) (SlK.ext h1 x7) (by omega) (by omega) fun u _ hur=>?_
    have hur:∀ w',FmS w' v1 a → FmS w' u x:=fun w' h=>by
     have hu:=hur w' h
     rw [Nat.add_sub_cancel_left,hd1',List.take_append_of_le_length (by rw [x.cells_len];omega),List.take_of_length_le (by rw [x.cells_len];omega)] at hu
     exact hu
    refine iFld (SlK.ext h0 x7) rfl (by omega) (by decide) k1 ?_
    intro w9 x9
    have hI9:=ImgW.ext hI7 x9
    have hu9:FmS w9 u x:=hur w9 (SlK.ext h1 (x7.trans x9))
    have hst:aY (sizeL (Fm.var v :: fs)) (Fm.var v :: fs) (x :: xs) g = if g v = none ∨ g v = some x then aY (sizeL fs) fs xs (updO g v x) else none:=by
     rw [sf,one,Nat.add_comm,aY]
    rw [hst] at hm
    refine iJnX (fun ys w'=>ys = [.bool (!decide (g v = none ∨ g v = some x))] ∧ Ext w9 w') (fun J hJ=>?_) ?_
    ·refine ImgW.known hI9 hv6 ?_
     show cnd (.bool (g v).isSome) _ _
     cases hg:g v with
     | none=>
      refine iCndF rfl (hJ _ _ ⟨?_,Ext.refl _⟩)
      rw [hg];simp
     | some y=>
      refine iCndT rfl (ImgW.get hI9 hv6 hg fun z hz hzs=>?_)
      refine iRet (cW hz hu9 (by omega)) fun w12 x12=>iNot (hJ _ _ ⟨?_,x12⟩)
      rw [hg];simp
    rintro _ w11 ⟨rfl,x11⟩
    intro _
    simp only [gx]
    have X11:=(x7.trans x9).trans x11
    by_cases hok:g v = none ∨ g v = some x
    ·rw [decide_eq_true hok]
     rw [if_pos hok] at hm
     refine iCndF rfl ?_
     have hI11:=ImgW.ext hI9 x11
     obtain ⟨us,a1,a2,a3⟩:=hI11.img
     obtain ⟨bs,b1,b2,b3⟩:=hI11.kn
     refine iWrO (j:=v) b2 rfl (by omega) rfl fun w13 ho13 hc13=>?_
     have X13:Ext w w13:=X11.thenCh hc13 fun c hc=>(b2.blk c hc).1
     have off13:∀ {k n lo:Nat} {e:TypeId} {u:Value} {xs:List Value},OwK k lo e w11 u n xs → e ≠ 4 → OwK k lo e w13 u n xs:=fun h hne=>OwK.ch h hc13 fun c hc hS=>by
      obtain ⟨cur,hh⟩:=b2.ty hS
      exact OwK.ne_blk h (show Blk 4 w11 c cur.toList by unfold Blk;rw [hh]) hne hc
     have a13:Ow w.heap.size aB w13 v12 us:=off13 (k:=1) a2 (by decide)
     refine iCall ((dQ (N:=rawF x) (by
      have:=hur w13 (SlK.ext h1 X13)
      unfold RawS
      rw [aG,a9]
      exact this) (by rw [aG];omega)).mono ?_)
     rintro v71 w14 ⟨x14,hv71⟩
     have hv71:OwK 2 w13.heap.size aA w14 v71 x.size x.cells:=by
      unfold RawW at hv71
      rw [aG,a9] at hv71
      exact hv71
     have a14:=a13.ext x14
     refine iWrO (j:=v) a14 rfl (by omega) (OwK.cell hv71) fun w15 ho15 hc15=>?_
     have X15:Ext w w15:=(X13.trans x14).thenCh hc15 fun c hc=>(a14.blk c hc).1
     have off15:∀ {k n lo:Nat} {e:TypeId} {u:Value} {xs:List Value},OwK k lo e w14 u n xs → e ≠ aB → OwK k lo e w15 u n xs:=fun h hne=>OwK.ch h hc15 fun c hc hS=>by
      obtain ⟨cur,hh⟩:=a14.ty hS
      exact OwK.ne_blk h (show Blk aB w14 c cur.toList by unfold Blk;rw [hh]) hne hc
     refine iLenK (hur w15 (SlK.ext h1 X15)) (iAdd (by omega) (iAdd (by omega) ?_))
     have hd2:a.cells.drop ((at_ + x.size) * 2) = aJ xs ++ []:=by
      rw [show (at_ + x.size) * 2 = at_ * 2 + x.cells.length by rw [x.cells_len];omega,← List.drop_drop,hd1',List.drop_left,List.append_nil]
     refine hKn (i + 1,at_ + x.size,fs,xs,updO g v x) _ ⟨⟨k2,hd2,by show i + 1 + sizeL fs = _;omega,by show at_ + x.size + sizeL xs = _;omega,by have hll:fs.length + 1 = xs.length + 1:=hll;show fs.length = xs.length;omega,fun y hy=>hgd y (List.mem_cons_of_mem _ hy),X15,hm⟩,⟨us.set v v71,by rw [List.length_set];exact a1,ho15,fun k y hk hg=>?_⟩,⟨bs.set v (.bool true),by rw [List.length_set];exact b1,off15 (k:=1) (ho13.ext x14) (by decide),fun k hk=>?_⟩⟩ (by show p.size - (i + 1) < p.size - i;omega)
     ·have hg:updO g v x k = some y:=hg
      unfold updO at hg
      by_cases e:k = v
      ·subst e
       rw [if_pos rfl] at hg
       cases hg
       exact ⟨v71,by rw [List.getElem?_set_self (by omega)],OwK.mono (off15 hv71 (by decide)) X13.size,by omega⟩
      ·rw [if_neg e] at hg
       obtain ⟨u',c1,c2,c3⟩:=a3 k y hk hg
       exact ⟨u',by rw [List.getElem?_set_ne (fun h=>e h.symm)];exact c1,off15 (OwK.ext (off13 c2 (by decide)) x14) (by decide),c3⟩
     ·show (bs.set v (.bool true))[k]? = some (.bool (updO g v x k).isSome)
      unfold updO
      by_cases e:k = v
      ·subst e
       rw [if_pos rfl,List.getElem?_set_self (by omega)];rfl
      ·rw [if_neg e,List.getElem?_set_ne (fun h=>e h.symm)]
       exact b3 k hk
    ·rw [decide_eq_false hok]
     rw [if_neg hok] at hm
     refine iCndT rfl ⟨X11,.slice none 0 0,?_⟩
     rw [← hm];rfl

end Go.Proofs.YtbfpohbmgjcjmaaGreatDoor
