/- A tape's parts, as they are read out of memory. -/
import Derived.Test.YtokidpajialgbaaTB
import Derived.Test.YtokidpajialgbaaMemB
namespace Go.Proofs.Ytokidpajialgbaa
set_option linter.unusedSimpArgs false
set_option linter.unusedVariables false
open Go.RowKit
/-- cells that stand somewhere -/
theorem rangeBelow {w w' : World} {b o : Nat} {cs : List Value} (h : w.rangeAt b o cs) (hb : Below w.heap.size w w') : w'.rangeAt b o cs := fun j v hj => by
  have hc := h j v hj
  exact (hb.cell (block_lt_of_cell hc)).trans hc
/-- a slice of numbers -/
def RowV (w : World) (k : IntKind) (v : Value) (l : List Int) : Prop := ∃ A c, v = .slice A l.length c ∧ Ints w A k l ∧ l.length ≤ c ∧ c ≤ maxLen ∧ ∀ x ∈ l, (Lit.int k x).wf = true
/-- a slice of numbers, each with a slice of numbers -/
def PairsV (w : World) (k : IntKind) (v : Value) (l : List (Int × List Int)) : Prop := ∃ A c, v = .slice A l.length c ∧ l.length ≤ c ∧ c ≤ maxLen ∧ ∀ i x, l[i]? = some x → (Lit.int .i64 x.1).wf = true ∧ ∃ (g o : Nat) (rv : Value), A = some ⟨g, o, none⟩ ∧ w.rangeAt g (o + i * 2) [.int .i64 x.1, rv] ∧ RowV w k rv x.2
/-- a slice of two numbers each -/
def RepsV (w : World) (v : Value) (l : List (Int × Int)) : Prop := ∃ A c, v = .slice A l.length c ∧ l.length ≤ c ∧ c ≤ maxLen ∧ ∀ i x, l[i]? = some x → (Lit.int .i64 x.1).wf = true ∧ (Lit.int .i64 x.2).wf = true ∧ ∃ g o : Nat, A = some ⟨g, o, none⟩ ∧ w.rangeAt g (o + i * 2) [.int .i64 x.1, .int .i64 x.2]
def TB.nums (B : TB) : List Int := [B.id, B.pause, B.pilot, B.sync1, B.sync2, B.zero, B.one, B.tone, B.count, B.used, B.rate, B.pack]
/-- a block, by its cells -/
structure TBV (w : World) (cs : List Value) (B : TB) : Prop where
  wf : ∀ x ∈ B.nums, (Lit.int .i64 x).wf = true
  cells : ∃ d t i p s r, cs = B.cells d t i p s r ∧ RowV w .u8 d B.data ∧ RowV w .i64 t B.times ∧ PairsV w .u8 i B.items ∧ PairsV w .i64 p B.pilots ∧ PairsV w .i64 s B.syms ∧ RepsV w r B.reps
/-- a slice of blocks -/
def BlksV (w : World) (v : Value) (l : List TB) : Prop := ∃ A c, v = .slice A l.length c ∧ l.length ≤ c ∧ c ≤ maxLen ∧ ∀ i B, l[i]? = some B → ∃ (g o : Nat) (cs : List Value), A = some ⟨g, o, none⟩ ∧ w.rangeAt g (o + i * 18) cs ∧ TBV w cs B
section
variable {w w' : World} {v : Value} {k : IntKind}
theorem RowV.below {l : List Int} (h : RowV w k v l) (hb : Below w.heap.size w w') : RowV w' k v l := by
  obtain ⟨A, c, h1, h2, h3⟩ := h
  exact ⟨A, c, h1, Cells.below h2 hb, h3⟩
theorem PairsV.below {l : List (Int × List Int)} (h : PairsV w k v l) (hb : Below w.heap.size w w') : PairsV w' k v l := by
  obtain ⟨A, c, h1, h2, h3, h4⟩ := h
  refine ⟨A, c, h1, h2, h3, fun i x hi => ?_⟩
  obtain ⟨hw, g, o, rv, h5, h6, h7⟩ := h4 i x hi
  exact ⟨hw, g, o, rv, h5, rangeBelow h6 hb, h7.below hb⟩
theorem RepsV.below {l : List (Int × Int)} (h : RepsV w v l) (hb : Below w.heap.size w w') : RepsV w' v l := by
  obtain ⟨A, c, h1, h2, h3, h4⟩ := h
  refine ⟨A, c, h1, h2, h3, fun i x hi => ?_⟩
  obtain ⟨hw, hw2, g, o, h5, h6⟩ := h4 i x hi
  exact ⟨hw, hw2, g, o, h5, rangeBelow h6 hb⟩
theorem TBV.below {cs : List Value} {B : TB} (h : TBV w cs B) (hb : Below w.heap.size w w') : TBV w' cs B := by
  obtain ⟨hw, d, t, i, p, s, r, h1, h2, h3, h4, h5, h6, h7⟩ := h
  exact ⟨hw, d, t, i, p, s, r, h1, h2.below hb, h3.below hb, h4.below hb, h5.below hb, h6.below hb, h7.below hb⟩
theorem BlksV.below {l : List TB} (h : BlksV w v l) (hb : Below w.heap.size w w') : BlksV w' v l := by
  obtain ⟨A, c, h1, h2, h3, h4⟩ := h
  refine ⟨A, c, h1, h2, h3, fun i x hi => ?_⟩
  obtain ⟨g, o, cs, h5, h6, h7⟩ := h4 i x hi
  exact ⟨g, o, cs, h5, rangeBelow h6 hb, h7.below hb⟩
theorem TBV.len {cs : List Value} {B : TB} (h : TBV w cs B) : cs.length = 18 := by
  obtain ⟨_, d, t, i, p, s, r, h1, _⟩ := h
  rw [h1]; rfl
theorem PairsV.at {l : List (Int × List Int)} (h : PairsV w k v l) : ∃ A c, v = .slice A l.length c ∧ l.length ≤ maxLen := by
  obtain ⟨A, c, h1, h2, h3, _⟩ := h
  exact ⟨A, c, h1, by omega⟩
end
end Go.Proofs.Ytokidpajialgbaa
