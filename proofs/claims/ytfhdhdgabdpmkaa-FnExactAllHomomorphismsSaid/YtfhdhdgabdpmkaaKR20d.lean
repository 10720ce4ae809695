/- The proof of FnExactAllHomomorphisms, part 4 of 5. Conditions: none. -/
import Derived.Test.YtfhdhdgabdpmkaaKR20c
/- Contracts: all homomorphisms between two modal algebras, in the reference. Conditions: none. -/
namespace Go.Vc
theorem iJnP {F : (List Value → World → Prop) → Prop} {K : List Value → World → Prop} (C : List Value → World → Prop) (h : ∀ J : List Value → World → Prop, (∀ xs w, C xs w → J xs w) → F J) (hK : ∀ xs w, C xs w → K xs w) : jn F K := h K hK
/-- What stands after some of the operations: two structs of one's own, two frames, an empty slice. -/
structure LS (eF tI tS : TypeId) (w0 : World) (L1 L0 : List Value) (w : World) (x1 x2 : Option (Nat × List Value)) (q1 q0 q2 : Option Value) : Prop where
  ext : Ext w0 w
  b1 : ∀ b cs, x1 = some (b, cs) → Blk eF w b cs ∧ cs.length = 2 ∧ w0.heap.size ≤ b
  b2 : ∀ b cs, x2 = some (b, cs) → Blk eF w b cs ∧ cs.length = 2 ∧ w0.heap.size ≤ b
  ne : ∀ b cs b' cs', x1 = some (b, cs) → x2 = some (b', cs') → b ≠ b'
  r1 : ∀ u, q1 = some u → Ow w0.heap.size tI w u L1
  r0 : ∀ u, q0 = some u → Ow w0.heap.size tI w u L0
  r2 : ∀ u, q2 = some u → Ow w0.heap.size tS w u []
section
variable {eF tI tS : TypeId} {w0 w : World} {L1 L0 : List Value} {x1 x2 : Option (Nat × List Value)} {q1 q0 q2 : Option Value} {P : Program}
theorem LS.later (h : LS eF tI tS w0 L1 L0 w x1 x2 q1 q0 q2) {w' : World} (x : Ext w w') : LS eF tI tS w0 L1 L0 w' x1 x2 q1 q0 q2 :=
  ⟨h.ext.trans x, fun b cs e => ⟨(h.b1 b cs e).1.ext x, (h.b1 b cs e).2⟩, fun b cs e => ⟨(h.b2 b cs e).1.ext x, (h.b2 b cs e).2⟩, h.ne, fun u e => (h.r1 u e).ext x, fun u e => (h.r0 u e).ext x, fun u e => (h.r2 u e).ext x⟩
theorem LS.all {G : World → Prop} (h : LS eF tI tS w0 L1 L0 w x1 x2 q1 q0 q2) (k : ∀ w', LS eF tI tS w0 L1 L0 w' x1 x2 q1 q0 q2 → G w') : ∀ w', Ext w w' → G w' := fun w' x => k w' (h.later x)
theorem LS.newA {z1 z2 : Value} {K : Value → World → Prop} (h : LS eF tI tS w0 L1 L0 w none none q1 q0 q2) (k : ∀ b w', Ext w w' → LS eF tI tS w0 L1 L0 w' (some (b, (Value.cells (.agg #[z1, z2])).toList)) none q1 q0 q2 → K (.pointer (some ⟨b, 0, none⟩)) w') : xNew (Value.cells (.agg #[z1, z2])) eF w K :=
  iNew fun b w' hb x hB => k b w' x ⟨h.ext.trans x, fun b' cs' e => (by cases e; exact ⟨hB, rfl, by have := h.ext.size; omega⟩), fun b' cs' e => (by cases e), fun _ _ _ _ _ e => by (cases e), fun u e => (h.r1 u e).ext x, fun u e => (h.r0 u e).ext x, fun u e => (h.r2 u e).ext x⟩
theorem LS.newB {y : Nat × List Value} {z1 z2 : Value} {K : Value → World → Prop} (h : LS eF tI tS w0 L1 L0 w (some y) none q1 q0 q2) (k : ∀ b w', Ext w w' → LS eF tI tS w0 L1 L0 w' (some y) (some (b, (Value.cells (.agg #[z1, z2])).toList)) q1 q0 q2 → K (.pointer (some ⟨b, 0, none⟩)) w') : xNew (Value.cells (.agg #[z1, z2])) eF w K :=
  iNew fun b w' hb x hB => k b w' x ⟨h.ext.trans x, fun b' cs' e => ⟨(h.b1 b' cs' e).1.ext x, (h.b1 b' cs' e).2⟩, fun b' cs' e => (by cases e; exact ⟨hB, rfl, by have := h.ext.size; omega⟩), fun b' cs' b2 cs2 e e' => (by
    cases e'
    have := (h.b1 _ _ e).1.lt
    omega), fun u e => (h.r1 u e).ext x, fun u e => (h.r0 u e).ext x, fun u e => (h.r2 u e).ext x⟩
theorem LS.bs {z : Value} {K : Value → World → Prop} (h : LS eF tI tS w0 L1 L0 w x1 x2 q1 q0 none) (k : ∀ u w', Ext w w' → LS eF tI tS w0 L1 L0 w' x1 x2 q1 q0 (some u) → K u w') : xBs tS (Value.cells z) 1 0 [] w K :=
  iBs0 fun u w' _ x hu => k u w' x ⟨(h.later x).ext, (h.later x).b1, (h.later x).b2, h.ne, (h.later x).r1, (h.later x).r0, fun u' e => (by cases e; exact hu.mono h.ext.size)⟩
theorem LS.stA {b : Nat} {cs : List Value} {a : Array Value} {K : World → Prop} (hIF : tI ≠ eF) (hSF : tS ≠ eF) (h : LS eF tI tS w0 L1 L0 w (some (b, cs)) x2 q1 q0 q2) (ha : a.size = 2) (hc : ∀ v ∈ a.toList, isCell v = true) (k : ∀ w', LS eF tI tS w0 L1 L0 w' (some (b, a.toList)) x2 q1 q0 q2 → K w') : xStA P w 2 (.pointer (some ⟨b, 0, none⟩)) (.agg a) K := by
  obtain ⟨g1, g2, g3⟩ := h.b1 b cs rfl
  refine iStAB g1 g2 ha hc fun w' hu hB => k w' ⟨h.ext.upd hu g3, fun b' cs' e => ?_, fun b' cs' e => ?_, fun b1 c1 b2 c2 e e' => ?_, fun u e => ?_, fun u e => ?_, fun u e => ?_⟩
  · cases e; exact ⟨hB, by simpa using ha, g3⟩
  · exact ⟨(h.b2 _ _ e).1.upd hu (fun e' => h.ne _ _ _ _ rfl e e'.symm), (h.b2 _ _ e).2⟩
  · cases e; exact h.ne _ _ _ _ rfl e'
  · exact (h.r1 u e).upd hu ((h.r1 u e).ne_blk g1 hIF)
  · exact (h.r0 u e).upd hu ((h.r0 u e).ne_blk g1 hIF)
  · exact (h.r2 u e).upd hu ((h.r2 u e).ne_blk g1 hSF)
theorem LS.stB {b : Nat} {cs : List Value} {a : Array Value} {K : World → Prop} (hIF : tI ≠ eF) (hSF : tS ≠ eF) (h : LS eF tI tS w0 L1 L0 w x1 (some (b, cs)) q1 q0 q2) (ha : a.size = 2) (hc : ∀ v ∈ a.toList, isCell v = true) (k : ∀ w', LS eF tI tS w0 L1 L0 w' x1 (some (b, a.toList)) q1 q0 q2 → K w') : xStA P w 2 (.pointer (some ⟨b, 0, none⟩)) (.agg a) K := by
  obtain ⟨g1, g2, g3⟩ := h.b2 b cs rfl
  refine iStAB g1 g2 ha hc fun w' hu hB => k w' ⟨h.ext.upd hu g3, fun b' cs' e => ?_, fun b' cs' e => ?_, fun b1 c1 b2 c2 e e' => ?_, fun u e => ?_, fun u e => ?_, fun u e => ?_⟩
  · exact ⟨(h.b1 _ _ e).1.upd hu (fun e' => h.ne _ _ _ _ e rfl e'), (h.b1 _ _ e).2⟩
  · cases e; exact ⟨hB, by simpa using ha, g3⟩
  · cases e'; exact h.ne _ _ _ _ e rfl
  · exact (h.r1 u e).upd hu ((h.r1 u e).ne_blk g1 hIF)
  · exact (h.r0 u e).upd hu ((h.r0 u e).ne_blk g1 hIF)
  · exact (h.r2 u e).upd hu ((h.r2 u e).ne_blk g1 hSF)
theorem LS.stA1 {b : Nat} {cs : List Value} {u : Value} {n : Int} {K : World → Prop} (hIF : tI ≠ eF) (hSF : tS ≠ eF) (h : LS eF tI tS w0 L1 L0 w (some (b, cs)) x2 (some u) q0 q2) (k : ∀ w', LS eF tI tS w0 L1 L0 w' (some (b, [.int .i64 n, u])) x2 (some u) q0 q2 → K w') : xStA P w 2 (.pointer (some ⟨b, 0, none⟩)) (.agg #[.int .i64 n, u]) K :=
  h.stA hIF hSF rfl ((h.r1 u rfl).pair n) k
theorem LS.stA0 {b : Nat} {cs : List Value} {u : Value} {n : Int} {K : World → Prop} (hIF : tI ≠ eF) (hSF : tS ≠ eF) (h : LS eF tI tS w0 L1 L0 w (some (b, cs)) x2 q1 (some u) q2) (k : ∀ w', LS eF tI tS w0 L1 L0 w' (some (b, [.int .i64 n, u])) x2 q1 (some u) q2 → K w') : xStA P w 2 (.pointer (some ⟨b, 0, none⟩)) (.agg #[.int .i64 n, u]) K :=
  h.stA hIF hSF rfl ((h.r0 u rfl).pair n) k
theorem LS.stB1 {b : Nat} {cs : List Value} {u : Value} {n : Int} {K : World → Prop} (hIF : tI ≠ eF) (hSF : tS ≠ eF) (h : LS eF tI tS w0 L1 L0 w x1 (some (b, cs)) (some u) q0 q2) (k : ∀ w', LS eF tI tS w0 L1 L0 w' x1 (some (b, [.int .i64 n, u])) (some u) q0 q2 → K w') : xStA P w 2 (.pointer (some ⟨b, 0, none⟩)) (.agg #[.int .i64 n, u]) K :=
  h.stB hIF hSF rfl ((h.r1 u rfl).pair n) k
theorem LS.stB0 {b : Nat} {cs : List Value} {u : Value} {n : Int} {K : World → Prop} (hIF : tI ≠ eF) (hSF : tS ≠ eF) (h : LS eF tI tS w0 L1 L0 w x1 (some (b, cs)) q1 (some u) q2) (k : ∀ w', LS eF tI tS w0 L1 L0 w' x1 (some (b, [.int .i64 n, u])) q1 (some u) q2 → K w') : xStA P w 2 (.pointer (some ⟨b, 0, none⟩)) (.agg #[.int .i64 n, u]) K :=
  h.stB hIF hSF rfl ((h.r0 u rfl).pair n) k
theorem LS.put1 (h : LS eF tI tS w0 L1 L0 w x1 x2 none q0 q2) {u : Value} {w' : World} (x : Ext w w') (ho : Ow w.heap.size tI w' u L1) : LS eF tI tS w0 L1 L0 w' x1 x2 (some u) q0 q2 :=
  ⟨(h.later x).ext, (h.later x).b1, (h.later x).b2, h.ne, fun _ e => (by cases e; exact ho.mono h.ext.size), (h.later x).r0, (h.later x).r2⟩
theorem LS.put0 (h : LS eF tI tS w0 L1 L0 w x1 x2 q1 none q2) {u : Value} {w' : World} (x : Ext w w') (ho : Ow w.heap.size tI w' u L0) : LS eF tI tS w0 L1 L0 w' x1 x2 q1 (some u) q2 :=
  ⟨(h.later x).ext, (h.later x).b1, (h.later x).b2, h.ne, (h.later x).r1, fun _ e => (by cases e; exact ho.mono h.ext.size), (h.later x).r2⟩
/-- What stands at the end. -/
def LSd (eF tI tS : TypeId) (w0 : World) (L1 L0 : List Value) (n1 n0 : Int) (xs : List Value) (w : World) : Prop := ∃ (b1 b0 : Nat) (u1 u0 u2 : Value), xs = [.pointer (some ⟨b1, 0, none⟩), .pointer (some ⟨b0, 0, none⟩), u2] ∧ Ext w0 w ∧ Blk eF w b1 [.int .i64 n1, u1] ∧ Blk eF w b0 [.int .i64 n0, u0] ∧ Ow w0.heap.size tI w u1 L1 ∧ Ow w0.heap.size tI w u0 L0 ∧ Ow w0.heap.size tS w u2 []
theorem LS.doneA {b b' : Nat} {u1 u0 u2 : Value} {n1 n0 : Int} (h : LS eF tI tS w0 L1 L0 w (some (b, [.int .i64 n1, u1])) (some (b', [.int .i64 n0, u0])) (some u1) (some u0) (some u2)) : LSd eF tI tS w0 L1 L0 n1 n0 [.pointer (some ⟨b, 0, none⟩), .pointer (some ⟨b', 0, none⟩), u2] w :=
  ⟨b, b', u1, u0, u2, rfl, h.ext, (h.b1 _ _ rfl).1, (h.b2 _ _ rfl).1, h.r1 _ rfl, h.r0 _ rfl, h.r2 _ rfl⟩
theorem LS.doneB {b b' : Nat} {u1 u0 u2 : Value} {n1 n0 : Int} (h : LS eF tI tS w0 L1 L0 w (some (b, [.int .i64 n0, u0])) (some (b', [.int .i64 n1, u1])) (some u1) (some u0) (some u2)) : LSd eF tI tS w0 L1 L0 n1 n0 [.pointer (some ⟨b', 0, none⟩), .pointer (some ⟨b, 0, none⟩), u2] w :=
  ⟨b', b, u1, u0, u2, rfl, h.ext, (h.b2 _ _ rfl).1, (h.b1 _ _ rfl).1, h.r1 _ rfl, h.r0 _ rfl, h.r2 _ rfl⟩
theorem iLdAx {e : TypeId} {b n : Nat} {cs : List Value} {a : Array Value} {K : Value → Prop} (hb : Blk e w b cs) (hn : cs.length = n) (ha : a = cs.toArray) (h : ∀ x, x = Value.agg a → K x) : xLdA w n (.pointer (some ⟨b, 0, none⟩)) K := iLdA hb hn (h _ (by rw [ha]))
end
end Go.Vc
namespace Go.Proofs.Ytfhdhdgabdpmkaa
open Go.Vc
theorem ok_spec_l15All {w : World} {v0 v1 : Value} {m0 m1 : Nat} {a0 a1 : List Nat} (hs0 : SlN w v0 a0) (hs1 : SlN w v1 a1) (hm0 : m0 ≤ 5) (hl0 : a0.length = 2 ^ m0) (hlt0 : ∀ x ∈ a0, x < 2 ^ m0) (hm1 : m1 ≤ 5) (hl1 : a1.length = 2 ^ m1) (hlt1 : ∀ x ∈ a1, x < 2 ^ m1) :
    Cal Try.prog f_spec_l15All #[.agg #[.int .i64 (m0 : Int), v0], .agg #[.int .i64 (m1 : Int), v1], .int .i64 201] w fun r w' => Ext w w' ∧ RdLL w.heap.size w' r (homL m0 ((homM m0 m1 a0 a1).take 201)) := by
  apply c_spec_l15All; unfold S_spec_l15All
  refine iNew fun b3 w1 hb3 h1 hB3 => ?_
  refine iNew fun b4 w2 hb4 h2 hB4 => ?_
  have hB3 := hB3.ext h2
  have hX2 := h1.trans h2
  have hlo2 := hX2.size
  refine iJnP (LSd 46 t_i64 t_Si64 w2 (ints (nats (algFr m1 a1).a)) (ints (nats (algFr m0 a0).a)) (m1 : Int) (m0 : Int)) (fun J hJ => ?_) (fun xs w4 hC => ?_)
  · refine iLdAx (a := #[.int .i64 (m1 : Int), v1]) hB4 rfl rfl fun x12 hx12 => ?_
    refine iLdAx (a := #[.int .i64 (m0 : Int), v0]) hB3 rfl rfl fun x14 hx14 => ?_
    have hIF : t_i64 ≠ 46 := by decide
    have hSF : t_Si64 ≠ 46 := by decide
    have call1 : ∀ {w5 : World} {y1 y2 : Option (Nat × List Value)} {q0 q2 : Option Value} {K : Value → World → Prop}, LS 46 t_i64 t_Si64 w2 (ints (nats (algFr m1 a1).a)) (ints (nats (algFr m0 a0).a)) w5 y1 y2 none q0 q2 → (∀ u w', Ext w5 w' → LS 46 t_i64 t_Si64 w2 (ints (nats (algFr m1 a1).a)) (ints (nats (algFr m0 a0).a)) w' y1 y2 (some u) q0 q2 → K (.agg #[.int .i64 (m1 : Int), u]) w') → callV Try.prog (.func (.func f_spec_l15Frame) #[] #[]) [x12] w5 K := by
      intro w5 y1 y2 q0 q2 K h k
      subst hx12
      refine iCall ((ok_spec_l15FrameO ((hs1.ext hX2).ext h.ext) hm1 hl1 hlt1).mono ?_)
      rintro _ w6 ⟨x, u, rfl, ho⟩
      exact k u w6 x (h.put1 x ho)
    have call0 : ∀ {w5 : World} {y1 y2 : Option (Nat × List Value)} {q1 q2 : Option Value} {K : Value → World → Prop}, LS 46 t_i64 t_Si64 w2 (ints (nats (algFr m1 a1).a)) (ints (nats (algFr m0 a0).a)) w5 y1 y2 q1 none q2 → (∀ u w', Ext w5 w' → LS 46 t_i64 t_Si64 w2 (ints (nats (algFr m1 a1).a)) (ints (nats (algFr m0 a0).a)) w' y1 y2 q1 (some u) q2 → K (.agg #[.int .i64 (m0 : Int), u]) w') → callV Try.prog (.func (.func f_spec_l15Frame) #[] #[]) [x14] w5 K := by
      intro w5 y1 y2 q1 q2 K h k
      subst hx14
      refine iCall ((ok_spec_l15FrameO ((hs0.ext hX2).ext h.ext) hm0 hl0 hlt0).mono ?_)
      rintro _ w6 ⟨x, u, rfl, ho⟩
      exact k u w6 x (h.put0 x ho)
    clear hs0 hs1 hl0 hl1 hlt0 hlt1 hB3 hB4
    have hLS : LS 46 t_i64 t_Si64 w2 (ints (nats (algFr m1 a1).a)) (ints (nats (algFr m0 a0).a)) w2 none none none none none :=
      ⟨Ext.refl _, fun _ _ e => (by cases e), fun _ _ e => (by cases e), fun _ _ _ _ e => (by cases e), fun _ e => (by cases e), fun _ e => (by cases e), fun _ e => (by cases e)⟩
    repeat' with_reducible first
      | refine LS.all (by assumption) fun _ _ => ?_
      | refine ⟨(by assumption), ?_⟩
      | refine And.intro ?_ ?_
      | refine call1 (by assumption) fun _ _ _ _ => ?_
      | refine call0 (by assumption) fun _ _ _ _ => ?_
      | refine LS.bs (by assumption) fun _ _ _ _ => ?_
      | refine LS.newA (by assumption) fun _ _ _ _ => ?_
      | refine LS.newB (by assumption) fun _ _ _ _ => ?_
      | refine LS.stA1 hIF hSF (by assumption) fun _ _ => ?_
      | refine LS.stA0 hIF hSF (by assumption) fun _ _ => ?_
      | refine LS.stB1 hIF hSF (by assumption) fun _ _ => ?_
      | refine LS.stB0 hIF hSF (by assumption) fun _ _ => ?_
      | exact hJ _ _ (LS.doneA (by assumption))
      | exact hJ _ _ (LS.doneB (by assumption))
  · obtain ⟨b7, b8, u1, u0, u2, rfl, hX4, hB7, hB8, ho1, ho0, ho2⟩ := hC
    intro _
    simp only [gx]
    have hX := hX2.trans hX4
    have hfa : SlN w4 u1 (algFr m1 a1).a := ho1.sl
    have hga : SlN w4 u0 (algFr m0 a0).a := ho0.sl
    have ho2 := ho2.mono hlo2
    ((with_reducible refine iLdA (by assumption) ?_ ?_); rfl; (with_reducible refine iLdA (by assumption) ?_ ?_); rfl)
    refine iCall ((ok_spec_l08Find (algFr_ok a1 (show m1 ≤ 8 by omega)) (algFr_ok a0 (show m0 ≤ 8 by omega)) (onto := false) (one := false) hfa hga (most := 201) (by omega) (by omega)).mono ?_)
    rintro v w5 ⟨h, vs, ho, hol⟩
    have hlo4 := hX.size
    rw [ref_eq (algFr_ok a1 (show m1 ≤ 8 by omega)) (algFr_ok a0 (show m0 ≤ 8 by omega)) (fun h => by cases h)] at hol
    have hne2 : ∀ c, u2.ownBlock = some c → v.ownBlock ≠ some c := fun c hc hc' => by have := (ho2.blk c hc).2; have := (ho.blk c hc').1; omega
    have ho2 := ho2.ext h
    have hB8 := hB8.ext h
    have hX := hX.trans h
    generalize hL : (leaves (fitsB (algFr m1 a1) (algFr m0 a0) false false) (algFr m0 a0).n (algFr m1 a1).n []).take 201 = L at *
    have hLh : (homM m0 m1 a0 a1).take 201 = L := hL
    have hLm : ∀ im ∈ L, im.length = m1 ∧ ∀ y ∈ im, y < m0 := fun im hi => homM_mem (a0 := a0) (a1 := a1) im (List.mem_of_mem_take (by rw [hLh]; exact hi))
    have hLl : L.length ≤ 201 := by rw [← hL, List.length_take]; omega
    have hvl := hol.1
    rw [List.length_map] at hvl
    clear hX4 hB7 ho1 ho0 hfa hga hX2 hB3 hB4 h1 h2 hs0 hs1
    refine iLp (fun s : Nat × Value => [s.2, .int .i64 (s.1 : Int)]) (fun s w' => s.1 ≤ L.length ∧ Ext w w' ∧ Blk 46 w' b8 [.int .i64 (m0 : Int), u0] ∧ Ow w4.heap.size t_Si64 w' v vs ∧ OwL w4.heap.size t_i64 w' vs (L.map fun l => ints (nats l)) ∧ (∀ c, s.2.ownBlock = some c → v.ownBlock ≠ some c) ∧ ∃ P : List VL, Ow w.heap.size t_Si64 w' s.2 (P.map Prod.fst) ∧ OwP w.heap.size t_i64 w' P ∧ P.map Prod.snd = (L.take s.1).map fun im => nats (dualN m0 im)) (fun s => L.length - s.1) (0, u2) rfl ⟨Nat.zero_le _, hX, hB8, ho, hol, hne2, [], ho2, ⟨fun p hp => (by cases hp), List.Pairwise.nil⟩, rfl⟩ ?_
    rintro ⟨i, o⟩ w6 Kn ⟨hi, hX, hB6, hv6, hl6, hn6, P, hP, hQ, hPs⟩ hKn
    have hi : i ≤ L.length := hi
    have hn6 : ∀ c, o.ownBlock = some c → v.ownBlock ≠ some c := hn6
    have hP : Ow w.heap.size t_Si64 w6 o (P.map Prod.fst) := hP
    have hPs : P.map Prod.snd = (L.take i).map fun im => nats (dualN m0 im) := hPs
    have hPl : P.length = i := by
      have := congrArg List.length hPs
      rw [List.length_map, List.length_map, List.length_take] at this
      omega
    intro _
    simp only [gx]
    refine iLenS hv6.sl ?_
    rw [hvl]
    refine iLt ?_
    refine iCndP (fun h3 => ?_) (fun h3 => ?_)
    · have hi1 : i < L.length := by omega
      have hiv : i < vs.length := by omega
      have him := hLm L[i] (List.getElem_mem hi1)
      have hrow : SlN w6 vs[i] L[i] := by
        have := (hl6.at hiv (by simpa using hi1)).sl
        rw [List.getElem_map] at this
        exact this
      ((with_reducible refine iJn ?_); (with_reducible refine iLdA (by assumption) ?_ ?_); rfl)
      refine iIaV hv6.sl hiv fun p hp => ?_
      refine iLd hp ?_
      intro w7 h
      have hrow := hrow.ext h
      have hX := hX.trans h
      have hB6 := hB6.ext h
      have hv6 := hv6.ext h
      have hl6 := hl6.ext h
      have hP := hP.ext h
      have hQ := hQ.ext h
      refine iCall ((ok_spec_l15Dual (lo := w7.heap.size) hrow (by omega) m0 hm0 him.2 (Nat.le_refl _)).mono ?_)
      rintro nr w8 ⟨h, hnr⟩
      (try refine ⟨h, ?_⟩)
      have hnew : ∀ q ∈ P, ∀ c, nr.ownBlock = some c → q.1.ownBlock ≠ some c := fun q hq c hc hc' => by have := ((hQ.1 q hq).blk c hc').2; have := (hnr.blk c hc).1; omega
      have hsz7 := hX.size
      have hX := hX.trans h
      have hB6 := hB6.ext h
      have hv6 := hv6.ext h
      have hl6 := hl6.ext h
      have hP := hP.ext h
      have hQ := hQ.ext h
      intro w9 h
      have hX := hX.trans h
      have hB6 := hB6.ext h
      have hv6 := hv6.ext h
      have hl6 := hl6.ext h
      have hP := hP.ext h
      have hQ := hQ.ext h
      have hnr := hnr.ext h
      refine iBs1 rfl hnr.cell fun bb w10 hbb h hB => ?_
      (try refine ⟨h, ?_⟩)
      have hX := hX.trans h
      have hB6 := hB6.ext h
      have hv6 := hv6.ext h
      have hl6 := hl6.ext h
      have hP := hP.ext h
      have hQ := hQ.ext h
      have hnr := hnr.ext h
      intro w11 h
      have hX := hX.trans h
      have hB6 := hB6.ext h
      have hv6 := hv6.ext h
      have hl6 := hl6.ext h
      have hP := hP.ext h
      have hQ := hQ.ext h
      have hnr := hnr.ext h
      have hB := hB.ext h
      have hsz11 := hX.size
      have hml : (P.map Prod.fst).length = i := by rw [List.length_map, hPl]
      refine iAppA u_SSi64 i_SSi64 rfl hP (Sl.ofBlk hB rfl (by omega)) (fun u hu => by simp at hu; subst hu; exact hnr.cell) (by rw [hml]; simp; omega) (by rw [hml]; simp; omega) (by omega) fun o' w12 ho' hg hat => ?_
      have hg6 := grown_ch (S := fun k => o.ownBlock = some k) hg fun k hk => hk
      have hX12 := hX.grown hg fun c hc => (hP.blk c hc).1
      have hB12 := hB6.grown hg (hP.ne_blk hB6 (by decide))
      have hv12 := hv6.ch hg6 fun k hk he => hn6 k he hk
      have hl12 := hl6.ch hg6 fun u hu k hk he => by
        obtain ⟨x, hx⟩ := hl6.ow hu
        exact hx.ne_ow hP (by decide) hk he
      have hQ12 := hQ.ch hg6 fun q hq k hk he => (hQ.1 q hq).ne_ow hP (by decide) hk he
      have hnr12 := hnr.ch hg6 fun k hk he => hnr.ne_ow hP (by decide) hk he
      have hn12 : ∀ c, o'.ownBlock = some c → v.ownBlock ≠ some c := fun c hc hc' => by
        rcases hat with e | ⟨c', e, hc2⟩
        · exact hn6 c (by rw [← e]; exact hc) hc'
        · rw [e] at hc; cases hc
          have := (hv6.blk c hc').2; omega
      intro w13 h13
      intro _
      simp only [gx]
      refine iAdd (by omega) ?_
      refine hKn (i + 1, o') _ ⟨by show i + 1 ≤ L.length; omega, hX12.trans h13, hB12.ext h13, hv12.ext h13, hl12.ext h13, hn12, P ++ [(nr, nats (dualN m0 L[i]))], ?_, ?_, ?_⟩ (by show L.length - (i + 1) < L.length - i; omega)
      · have := ho'.ext h13
        simpa using this
      · have hQ13 := hQ12.ext h13
        refine ⟨fun q hq => ?_, List.pairwise_append.2 ⟨hQ13.2, List.pairwise_singleton _ _, fun q hq q' hq' c hc hc' => ?_⟩⟩
        · rcases List.mem_append.1 hq with hq | hq
          · exact hQ13.1 q hq
          · simp at hq; subst hq
            exact (hnr12.ext h13).mono (by omega)
        · simp at hq'; subst hq'
          exact hnew q hq c hc' hc
      · show (P ++ [(nr, nats (dualN m0 L[i]))]).map Prod.snd = (L.take (i + 1)).map fun im => nats (dualN m0 im)
        rw [List.map_append, hPs, List.take_succ_eq_append_getElem hi1, List.map_append]; rfl
    · obtain rfl : i = L.length := by omega
      rw [List.take_length] at hPs
      have h32 : 2 ^ m0 ≤ 32 := Nat.pow_le_pow_right (i := m0) (j := 5) (by omega) hm0
      refine iCall ((ok_spec_l04Sorted hP.sl (fun q hq => (hQ.1 q hq).sl) (fun q hq => ?_) (by omega)).mono ?_)
      · have : q.2 ∈ P.map Prod.snd := List.mem_map_of_mem hq
        rw [hPs] at this
        obtain ⟨im, _, e⟩ := List.mem_map.1 this
        rw [← e, nats_length]
        unfold dualN
        rw [dualK_len]; omega
      · rintro r w7 ⟨h7, hr⟩
        rw [hPs] at hr
        rw [hLh]
        exact ⟨hX.trans h7, hr.mono hX.size⟩
end Go.Proofs.Ytfhdhdgabdpmkaa

/- Contracts: AllHomomorphisms in the program and in the reference. Conditions: none. -/
namespace Go.Proofs.Ytfhdhdgabdpmkaa
open Go.Vc
theorem homL_elt {n : Nat} {L : List (List Nat)} {l : List Int} (h : l ∈ homL n L) : l.length = 2 ^ n := by
  unfold homL at h
  rw [mem_setA ordL] at h
  obtain ⟨im, _, rfl⟩ := List.mem_map.1 h
  rw [nats_length]
  exact dualK_len _ _
theorem homOut_small (n0 : Int) (l0 : List Int) (n1 : Int) (l1 : List Int) : tot (homOut n0 l0 n1 l1).1 ≤ 1000000000 := by
  unfold homOut
  split
  · rename_i h
    rw [Bool.and_eq_true] at h
    obtain ⟨m0, a0, _, _, hm0, _, _, e1, _⟩ := algOk_of h.1
    rw [e1]
    split
    · simp [tot]
    · rename_i h200
      refine Nat.le_trans (tot_le (a := 200) (b := 32) (Nat.le_of_not_lt h200) fun l hl => ?_) (by omega)
      rw [homL_elt hl]
      exact Nat.pow_le_pow_right (i := m0) (j := 5) (by omega) hm0
  · simp [tot]
theorem ok_impl_AllHomomorphisms {w : World} {v0 v1 : Value} {l0 l1 : List Int} (hs0 : SlI w v0 l0) (hs1 : SlI w v1 l1) (n0 n1 : Int) : Cal Try.prog f_impl_AllHomomorphisms #[.agg #[.int .i64 n0, v0], .agg #[.int .i64 n1, v1]] w fun r w' => Ext w w' ∧ ∃ v, r = .tuple #[v, .int .i64 (homOut n0 l0 n1 l1).2] ∧ RdLL w.heap.size w' v (homOut n0 l0 n1 l1).1 := by
  apply c_impl_AllHomomorphisms; unfold S_impl_AllHomomorphisms
  have hX := Ext.refl w
  refine iNew fun b2 w1 hb2 h hB2 => ?_
  have hX := hX.trans h
  refine iNew fun b3 w2 hb3 h hB3 => ?_
  have hX := hX.trans h
  have hB2 := hB2.ext h
  refine iJnB (!(algOk n0 l0 && algOk n1 l1)) w2 (fun J hJ => ?_) (fun w4 h => ?_)
  · ((with_reducible refine iLdA (by assumption) ?_ ?_); rfl)
    refine iRet (ok_impl_isModalAlgebra (hs0.ext hX) n0) fun w5 h => ?_
    have hB3 := hB3.ext h
    ((with_reducible refine iNot ?_))
    cases h0 : algOk n0 l0
    · refine iCndT rfl ?_
      have := hJ w5 h
      rwa [h0] at this
    · refine iCndF rfl ?_
      ((with_reducible refine iLdA (by assumption) ?_ ?_); rfl)
      refine iRet (ok_impl_isModalAlgebra (hs1.ext (hX.trans h)) n1) fun w6 h6 => ?_
      ((with_reducible refine iNot ?_))
      have := hJ w6 (h.trans h6)
      rwa [h0, Bool.true_and] at this
  have hX := hX.trans h
  have hB2 := hB2.ext h
  have hB3 := hB3.ext h
  (intro _; (try simp only [gx]))
  unfold homOut
  cases hfr : algOk n0 l0 && algOk n1 l1
  · refine iCndT rfl ?_
    exact ⟨hX, _, rfl, [], Ow.nil _ _ _, OwL.nil _ _ _⟩
  · refine iCndF rfl ?_
    rw [Bool.and_eq_true] at hfr
    obtain ⟨m0, a0, rfl, rfl, hm0, hl0, hlt0, e1, e2⟩ := algOk_of hfr.1
    obtain ⟨m1, a1, rfl, rfl, hm1, hl1, hlt1, e3, e4⟩ := algOk_of hfr.2
    rw [e1, e2, e3, e4]
    ((with_reducible refine iLdA (by assumption) ?_ ?_); rfl; (with_reducible refine iLdA (by assumption) ?_ ?_); rfl)
    refine iCall ((ok_impl_homomorphisms (hs0.ext hX) (hs1.ext hX) hm0 hl0 hlt0 hm1 hl1 hlt1).mono ?_)
    rintro r w5 ⟨h, vs, ho, hol⟩
    have hlo := hX.size
    have hX := hX.trans h
    have hvl := hol.1
    rw [List.length_map] at hvl
    have hsl := ho.sl
    generalize homL m0 (homM m0 m1 a0 a1) = L at *
    refine iLenS hsl ?_
    rw [hvl]
    ((with_reducible refine iLt ?_))
    refine iCndP (fun h => ?_) (fun h => ?_)
    · rw [if_pos rfl, if_pos (show 200 < L.length by omega)]
      exact ⟨hX, _, rfl, [], Ow.nil _ _ _, OwL.nil _ _ _⟩
    · rw [if_pos rfl, if_neg (show ¬ 200 < L.length by omega)]
      exact ⟨hX, _, rfl, vs, ho.mono hlo, hol.mono hlo⟩
theorem ok_spec_AllHomomorphisms {w : World} {v0 v1 : Value} {l0 l1 : List Int} (hs0 : SlI w v0 l0) (hs1 : SlI w v1 l1) (n0 n1 : Int) : Cal Try.prog f_spec_AllHomomorphisms #[.agg #[.int .i64 n0, v0], .agg #[.int .i64 n1, v1]] w fun r w' => Ext w w' ∧ ∃ v, r = .tuple #[v, .int .i64 (homOut n0 l0 n1 l1).2] ∧ RdLL w.heap.size w' v (homOut n0 l0 n1 l1).1 := by
  apply c_spec_AllHomomorphisms; unfold S_spec_AllHomomorphisms
  have hX := Ext.refl w
  refine iNew fun b2 w1 hb2 h hB2 => ?_
  have hX := hX.trans h
  refine iNew fun b3 w2 hb3 h hB3 => ?_
  have hX := hX.trans h
  have hB2 := hB2.ext h
  refine iJnB (!(algOk n0 l0 && algOk n1 l1)) w2 (fun J hJ => ?_) (fun w4 h => ?_)
  · ((with_reducible refine iLdA (by assumption) ?_ ?_); rfl)
    refine iRet (ok_spec_l15Is (hs0.ext hX) n0) fun w5 h => ?_
    have hB3 := hB3.ext h
    ((with_reducible refine iNot ?_))
    cases h0 : algOk n0 l0
    · refine iCndT rfl ?_
      have := hJ w5 h
      rwa [h0] at this
    · refine iCndF rfl ?_
      ((with_reducible refine iLdA (by assumption) ?_ ?_); rfl)
      refine iRet (ok_spec_l15Is (hs1.ext (hX.trans h)) n1) fun w6 h6 => ?_
      ((with_reducible refine iNot ?_))
      have := hJ w6 (h.trans h6)
      rwa [h0, Bool.true_and] at this
  have hX := hX.trans h
  have hB2 := hB2.ext h
  have hB3 := hB3.ext h
  (intro _; (try simp only [gx]))
  unfold homOut
  cases hfr : algOk n0 l0 && algOk n1 l1
  · refine iCndT rfl ?_
    exact ⟨hX, _, rfl, [], Ow.nil _ _ _, OwL.nil _ _ _⟩
  · refine iCndF rfl ?_
    rw [Bool.and_eq_true] at hfr
    obtain ⟨m0, a0, rfl, rfl, hm0, hl0, hlt0, e1, e2⟩ := algOk_of hfr.1
    obtain ⟨m1, a1, rfl, rfl, hm1, hl1, hlt1, e3, e4⟩ := algOk_of hfr.2
    rw [e1, e2, e3, e4]
    ((with_reducible refine iLdA (by assumption) ?_ ?_); rfl; (with_reducible refine iLdA (by assumption) ?_ ?_); rfl)
    refine iCall ((ok_spec_l15All (hs0.ext hX) (hs1.ext hX) hm0 hl0 hlt0 hm1 hl1 hlt1).mono ?_)
    rintro r w5 ⟨h, vs, ho, hol⟩
    have hlo := hX.size
    have hX := hX.trans h
    have hvl := hol.1
    rw [List.length_map] at hvl
    have hsl := ho.sl
    have htk := homL_take (n := m0) (homM_nodup (m0 := m0) (m1 := m1) (a0 := a0) (a1 := a1)) homM_mem
    rw [if_pos rfl, ← htk]
    generalize homL m0 ((homM m0 m1 a0 a1).take 201) = L at *
    refine iLenS hsl ?_
    rw [hvl]
    ((with_reducible refine iLt ?_))
    refine iCndP (fun h => ?_) (fun h => ?_)
    · rw [if_pos (show 200 < L.length by omega)]
      exact ⟨hX, _, rfl, [], Ow.nil _ _ _, OwL.nil _ _ _⟩
    · rw [if_neg (show ¬ 200 < L.length by omega)]
      exact ⟨hX, _, rfl, vs, ho.mono hlo, hol.mono hlo⟩
end Go.Proofs.Ytfhdhdgabdpmkaa

/- The law on AllHomomorphisms: what its body answers. Conditions: none. -/
namespace Go.Proofs.Ytfhdhdgabdpmkaa
open Go.Vc
theorem ok_laws_FnExactAllHomomorphisms {w : World} {v0 v1 : Value} {l0 l1 : List Int} (hs0 : SlI w v0 l0) (hs1 : SlI w v1 l1) (n0 n1 : Int) : Ret Try.prog f_laws_FnExactAllHomomorphisms #[.agg #[.int .i64 n0, v0], .agg #[.int .i64 n1, v1]] w (.bool true) := by
  apply c_laws_FnExactAllHomomorphisms; unfold S_laws_FnExactAllHomomorphisms
  exact law2 (by decide) (by decide) (by decide) ⟨fun hs n left h0 => ok_laws_szModalAlgebra hs n left h0, fun hs n hl => ok_laws_toModalAlgebra hs n hl, fun hs hs' n n' => ok_laws_eqModalAlgebra hs hs' n n', fun hs n k hk => ok_laws_markModalAlgebra hs n k hk⟩ (resLists ok_spec_AllHomomorphisms ok_impl_AllHomomorphisms homOut_small) hs0 hs1 n0 n1
end Go.Proofs.Ytfhdhdgabdpmkaa
