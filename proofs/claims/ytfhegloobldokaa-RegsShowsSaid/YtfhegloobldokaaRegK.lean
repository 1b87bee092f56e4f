/- What the law RegsBack leans on. -/
import Derived.Test.YtfhegloobldokaaRegI
import Derived.Test.YtfhegloobldokaaRegE
import Derived.Laws.StructEq
import Derived.Deep.QuietTactic
namespace Go.Proofs.Ytfhegloobldokaa
set_option linter.unusedSimpArgs false
set_option linter.unusedVariables false
open Go.RowKit
theorem Rg.size (r : Rg) : r.cells.toArray.size = 30 := rfl
theorem Rg.one (r : Rg) : r.cells.toArray.all (·.oneCell') = true := by simp [Rg.cells, Value.oneCell']
theorem info_of {C : Array Value} (h : C.size = 30) : (Try.prog.info? 24).map (·.size) = some C.size := by rw [h]; exact infoRegs
/-- the two arguments, boxed -/
theorem boxed (w : World) (C N : Array Value) (T U : TypeId) : ∃ w1, w1 = (w.alloc (.cells C T)).alloc (.cells N U) ∧ w1.heap[w.heap.size]? = some (.cells C T (0, 0)) ∧ w1.heap[w.heap.size + 1]? = some (.cells N U (0, 0)) ∧ Below w.heap.size w w1 ∧ w1.heap.size = w.heap.size + 2 :=
  ⟨_, rfl, heap_alloc2_old w _ _, heap_alloc2_new w _ _, ((Below.refl _ w).alloc (Nat.le_refl _) _).alloc (by simp) _, by simp⟩
/-- a copy of registers in new memory -/
theorem copied (w : World) (C : Array Value) (T : TypeId) : ∃ w1, w1 = w.alloc (.cells C T) ∧ w1.heap[w.heap.size]? = some (.cells C T (0, 0)) ∧ Below w.heap.size w w1 ∧ w1.heap.size = w.heap.size + 1 :=
  ⟨_, rfl, heap_alloc_new w _, (Below.refl _ w).alloc (Nat.le_refl _) _, by simp⟩
theorem Rg.byte_put (r : Rg) (hr : r.Ok) (k ix v j : Int) (hv : B8 v) (hj : 0 ≤ j ∧ j ≤ 7) : (r.putByte k ix v).byte j ix = if j = k ∧ j ≠ 6 then v else r.byte j ix := by
  obtain ⟨v0, v1⟩ := hv
  have hx := hr.ix; have hy := hr.iy
  obtain ⟨x0, x1⟩ := hx
  obtain ⟨y0, y1⟩ := hy
  by_cases hk : 0 ≤ k ∧ k ≤ 7
  · have kx : ix = 1 ∨ ix = 2 ∨ (ix ≠ 1 ∧ ix ≠ 2) := by omega
    have kk : k = 0 ∨ k = 1 ∨ k = 2 ∨ k = 3 ∨ k = 4 ∨ k = 5 ∨ k = 6 ∨ k = 7 := by omega
    have kj : j = 0 ∨ j = 1 ∨ j = 2 ∨ j = 3 ∨ j = 4 ∨ j = 5 ∨ j = 6 ∨ j = 7 := by omega
    rcases kx with rfl | rfl | ⟨n1, n2⟩ <;> rcases kk with rfl | rfl | rfl | rfl | rfl | rfl | rfl | rfl <;> rcases kj with rfl | rfl | rfl | rfl | rfl | rfl | rfl | rfl
    all_goals (simp [Rg.putByte, Rg.byte, *]; try omega)
  · have n : k ≠ 0 ∧ k ≠ 1 ∧ k ≠ 2 ∧ k ≠ 3 ∧ k ≠ 4 ∧ k ≠ 5 ∧ k ≠ 7 := by omega
    have nj : ¬ (j = k ∧ j ≠ 6) := by omega
    rw [if_neg nj]
    simp [Rg.putByte, n]
theorem B8.mul {x y : Int} (hx : B8 x) (hy : B8 y) : B16 (x * 256 + y) := by
  obtain ⟨a, b⟩ := hx
  obtain ⟨c, d⟩ := hy
  exact ⟨by omega, by omega⟩
theorem Rg.put_ok (r : Rg) (hr : r.Ok) (k ix v : Int) (hv : B8 v) : (r.putByte k ix v).Ok := by
  unfold Rg.putByte
  split
  · exact { hr with b := hv }
  split
  · exact { hr with c := hv }
  split
  · exact { hr with d := hv }
  split
  · exact { hr with e := hv }
  split
  · split
    · exact { hr with ix := hv.mul (b8_lo hr.ix) }
    split
    · exact { hr with iy := hv.mul (b8_lo hr.iy) }
    · exact { hr with h := hv }
  split
  · split
    · exact { hr with ix := (b8_hi hr.ix).mul hv }
    split
    · exact { hr with iy := (b8_hi hr.iy).mul hv }
    · exact { hr with l := hv }
  split
  · exact { hr with a := hv }
  · exact hr
theorem size_add2 {w w1 : World} {n : Nat} (h : w1.heap.size = n + 2) : n + 1 + 1 = w1.heap.size := by omega
end Go.Proofs.Ytfhegloobldokaa
