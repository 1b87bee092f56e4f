/- The law RegsPairs: what its body leans on. -/
import Derived.Test.YtfhegloobldokaaRegY
import Derived.Test.YtfhegloobldokaaRegR
import Derived.Test.YtfhegloobldokaaRegU
namespace Go.Proofs.Ytfhegloobldokaa
set_option linter.unusedSimpArgs false
set_option linter.unusedVariables false
open Go.RowKit
/-- three copies of registers in new memory: each block laid first, stored behind -/
structure Three (w : World) (Z C : Array Value) (T : TypeId) (w3 w2 : World) : Prop where
  g0 : w3.heap[w.heap.size]? = some (.cells Z T (0, 0))
  g1 : (w3.setRow w.heap.size C).heap[w.heap.size + 1]? = some (.cells Z T (0, 0))
  g2 : ((w3.setRow w.heap.size C).setRow (w.heap.size + 1) C).heap[w.heap.size + 1 + 1]? = some (.cells Z T (0, 0))
  f0 : w2.heap[w.heap.size]? = some (.cells C T (0, 0))
  f1 : w2.heap[w.heap.size + 1]? = some (.cells C T (0, 0))
  f2 : w2.heap[w.heap.size + 1 + 1]? = some (.cells C T (0, 0))
  below : Below w.heap.size w w2
  size : w2.heap.size = w.heap.size + 1 + 1 + 1
theorem three_new (w : World) (Z C : Array Value) (T : TypeId) : ∃ w3 w2, w3 = ((w.alloc (.cells Z T)).alloc (.cells Z T)).alloc (.cells Z T) ∧ w2 = ((w3.setRow w.heap.size C).setRow (w.heap.size + 1) C).setRow (w.heap.size + 1 + 1) C ∧ Three w Z C T w3 w2 := by
  have s1 : (w.alloc (.cells Z T)).heap.size = w.heap.size + 1 := by simp
  have s2 : ((w.alloc (.cells Z T)).alloc (.cells Z T)).heap.size = w.heap.size + 1 + 1 := by simp
  have e0 : (((w.alloc (.cells Z T)).alloc (.cells Z T)).alloc (.cells Z T)).heap[w.heap.size]? = some (.cells Z T (0, 0)) :=
    (Below.heap_alloc _ _ _ (by omega)).trans ((Below.heap_alloc _ _ _ (by omega)).trans (heap_alloc_new w _))
  have e1 : (((w.alloc (.cells Z T)).alloc (.cells Z T)).alloc (.cells Z T)).heap[w.heap.size + 1]? = some (.cells Z T (0, 0)) := by
    rw [Below.heap_alloc _ _ _ (by omega), ← s1]
    exact heap_alloc_new _ _
  have e2 : (((w.alloc (.cells Z T)).alloc (.cells Z T)).alloc (.cells Z T)).heap[w.heap.size + 1 + 1]? = some (.cells Z T (0, 0)) := by
    rw [← s2]
    exact heap_alloc_new _ _
  have b3 : Below w.heap.size w (((w.alloc (.cells Z T)).alloc (.cells Z T)).alloc (.cells Z T)) := (((Below.refl _ w).alloc (Nat.le_refl _) _).alloc (by omega) _).alloc (by omega) _
  have s3 : (((w.alloc (.cells Z T)).alloc (.cells Z T)).alloc (.cells Z T)).heap.size = w.heap.size + 1 + 1 + 1 := by simp
  refine ⟨_, _, rfl, rfl, ?_⟩
  obtain ⟨u, hu⟩ : ∃ u, u = ((w.alloc (.cells Z T)).alloc (.cells Z T)).alloc (.cells Z T) := ⟨_, rfl⟩
  rw [← hu] at e0 e1 e2 b3 s3 ⊢
  exact
    { g0 := e0
      g1 := (setRow_other _ _ _ _ (by omega)).trans e1
      g2 := (setRow_other _ _ _ _ (by omega)).trans ((setRow_other _ _ _ _ (by omega)).trans e2)
      f0 := (setRow_other _ _ _ _ (by omega)).trans ((setRow_other _ _ _ _ (by omega)).trans (setRow_heap _ _ _ _ _ _ e0))
      f1 := (setRow_other _ _ _ _ (by omega)).trans (setRow_heap _ _ _ _ _ _ ((setRow_other _ _ _ _ (by omega)).trans e1))
      f2 := setRow_heap _ _ _ _ _ _ ((setRow_other _ _ _ _ (by omega)).trans ((setRow_other _ _ _ _ (by omega)).trans e2))
      below := below_setRow (below_setRow (below_setRow b3 (Nat.le_refl _) _) (by omega) _) (by omega) _
      size := by rw [size_setRow, size_setRow, size_setRow]; exact s3 }
/-- the two numbers, four blocks of registers, and A and F of the first, in a world that has grown -/
def Held4 (LD : Nat → World → Result Value) (W : World) (gn gr gx gy gz : Nat) (C CX CY : Array Value) (k ix a f : Int) (w' : World) : Prop :=
  Below W.heap.size W w' ∧ (w'.cell? ⟨gn, 0, none⟩ = some (.int .i64 k) ∧ w'.cell? ⟨gn, 1, none⟩ = some (.int .i64 ix)) ∧ (w'.cell? ⟨gr, 0, none⟩ = some (.int .u8 a) ∧ w'.cell? ⟨gr, 1, none⟩ = some (.int .u8 f)) ∧ (w'.heap[gr]? = some (.cells C 24 (0, 0)) ∧ w'.heap[gx]? = some (.cells CX 24 (0, 0)) ∧ w'.heap[gy]? = some (.cells CY 24 (0, 0)) ∧ w'.heap[gz]? = some (.cells CY 24 (0, 0))) ∧ LD gr w' = .ok (.agg C) w' ∧ LD gx w' = .ok (.agg CX) w' ∧ LD gy w' = .ok (.agg CY) w' ∧ LD gz w' = .ok (.agg CY) w'
theorem Held4.below {LD : Nat → World → Result Value} (hl : IsLD LD) {W w w' : World} {gn gr gx gy gz : Nat} {C CX CY : Array Value} {k ix a f : Int} (hs : C.size = 30) (hx : CX.size = 30) (hy : CY.size = 30) (hb : Below w.heap.size w w') (x : Held4 LD W gn gr gx gy gz C CX CY k ix a f w) : Held4 LD W gn gr gx gy gz C CX CY k ix a f w' := by
  have k' : ∀ (a : Addr) (v : Value), w.cell? a = some v → w'.cell? a = some v := fun a v hc => (hb.cell (block_lt_of_cell hc)).trans hc
  obtain ⟨hB, ⟨n0, n1⟩, ⟨a0, f0⟩, ⟨h1, h2, h3, h4⟩, _, _, _, _⟩ := x
  exact ⟨hB.trans (hb.mono hB.size), ⟨k' _ _ n0, k' _ _ n1⟩, ⟨k' _ _ a0, k' _ _ f0⟩, ⟨row_keep hb h1, row_keep hb h2, row_keep hb h3, row_keep hb h4⟩, LD_of hl hs (row_keep hb h1), LD_of hl hx (row_keep hb h2), LD_of hl hy (row_keep hb h3), LD_of hl hy (row_keep hb h4)⟩
theorem Held4.drew {LD : Nat → World → Result Value} (hl : IsLD LD) {W w : World} {gn gr gx gy gz : Nat} {C CX CY : Array Value} {k ix a f : Int} (hs : C.size = 30) (hx : CX.size = 30) (hy : CY.size = 30) (x : Held4 LD W gn gr gx gy gz C CX CY k ix a f w) : Held4 LD W gn gr gx gy gz C CX CY k ix a f w.drew := Held4.below hl hs hx hy (Below.refl _ w).drew x
theorem Drew.below {w w' : World} (h : Drew w w') : Below w.heap.size w w' := by
  obtain ⟨n, rfl⟩ := h
  exact Below_drewN (Below.refl _ w) n
end Go.Proofs.Ytfhegloobldokaa
