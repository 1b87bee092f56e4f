/- squealref06: Put. -/
import Derived.Test.YtfhegloobldokaaRegN
namespace Go.Proofs.Ytfhegloobldokaa
set_option linter.unusedSimpArgs false
set_option linter.unusedVariables false
open Go.RowKit
theorem Blk.arr {w : World} {g : Nat} {t : TypeId} {cs : List Value} {C : Array Value} (h : Blk w g t cs) (e : C = cs.toArray) : w.heap[g]? = some (.cells C t (0, 0)) := by rw [e]; exact h
theorem valid_cases {k : Int} (h : 0 ≤ k ∧ k ≤ 7 ∧ k ≠ 6) : k = 0 ∨ k = 1 ∨ k = 2 ∨ k = 3 ∨ k = 4 ∨ k = 5 ∨ k = 7 := by omega
theorem ix_cases (ix : Int) : ix = 1 ∨ ix = 2 ∨ (ix ≠ 1 ∧ ix ≠ 2) := by omega
theorem Rg.byte_b8 (r : Rg) (hr : r.Ok) (k ix : Int) : B8 (r.byte k ix) := by
  have z : B8 0 := ⟨by decide, by decide⟩
  unfold Rg.byte
  repeat' split
  all_goals first | exact hr.b | exact hr.c | exact hr.d | exact hr.e | exact hr.h | exact hr.l | exact hr.a | exact b8_hi hr.ix | exact b8_hi hr.iy | exact b8_lo hr.ix | exact b8_lo hr.iy | exact z
theorem list_put (r : Rg) (hr : r.Ok) (k ix v : Int) (hv : B8 v) (h : 0 ≤ k ∧ k ≤ 7 ∧ k ≠ 6) : (r.list ix).set k.toNat (.int .u8 v) = (r.putByte k ix v).list ix := by
  obtain ⟨v0, v1⟩ := hv
  have hx := hr.ix
  have hy := hr.iy
  obtain ⟨x0, x1⟩ := hx
  obtain ⟨y0, y1⟩ := hy
  rcases valid_cases h with rfl | rfl | rfl | rfl | rfl | rfl | rfl <;> rcases ix_cases ix with rfl | rfl | ⟨n1, n2⟩
  all_goals (simp [Rg.list, Rg.byte, Rg.putByte, *]; try omega)
theorem cells_put1 (r : Rg) (hr : r.Ok) (k v : Int) (hv : B8 v) (h : 0 ≤ k ∧ k ≤ 7 ∧ k ≠ 6) (X : Rg) (hX : X = r.putByte k 1 v) :
    (((((r.cells.set 2 (.int .u8 X.b)).set 3 (.int .u8 X.c)).set 4 (.int .u8 X.d)).set 5 (.int .u8 X.e)).set 0 (.int .u8 X.a)).set 19 (.int .u16 (256 * X.byte 4 1 + X.byte 5 1)) = X.cells := by
  obtain ⟨v0, v1⟩ := hv
  have hx := hr.ix
  obtain ⟨x0, x1⟩ := hx
  subst hX
  rcases valid_cases h with rfl | rfl | rfl | rfl | rfl | rfl | rfl
  all_goals (simp [Rg.cells, Rg.byte, Rg.putByte]; try omega)
theorem cells_put2 (r : Rg) (hr : r.Ok) (k v : Int) (hv : B8 v) (h : 0 ≤ k ∧ k ≤ 7 ∧ k ≠ 6) (X : Rg) (hX : X = r.putByte k 2 v) :
    (((((r.cells.set 2 (.int .u8 X.b)).set 3 (.int .u8 X.c)).set 4 (.int .u8 X.d)).set 5 (.int .u8 X.e)).set 0 (.int .u8 X.a)).set 20 (.int .u16 (256 * X.byte 4 2 + X.byte 5 2)) = X.cells := by
  obtain ⟨v0, v1⟩ := hv
  have hy := hr.iy
  obtain ⟨y0, y1⟩ := hy
  subst hX
  rcases valid_cases h with rfl | rfl | rfl | rfl | rfl | rfl | rfl
  all_goals (simp [Rg.cells, Rg.byte, Rg.putByte]; try omega)
theorem cells_put0 (r : Rg) (k ix v : Int) (n1 : ix ≠ 1) (n2 : ix ≠ 2) (h : 0 ≤ k ∧ k ≤ 7 ∧ k ≠ 6) (X : Rg) (hX : X = r.putByte k ix v) :
    ((((((r.cells.set 2 (.int .u8 X.b)).set 3 (.int .u8 X.c)).set 4 (.int .u8 X.d)).set 5 (.int .u8 X.e)).set 0 (.int .u8 X.a)).set 6 (.int .u8 (X.byte 4 ix))).set 7 (.int .u8 (X.byte 5 ix)) = X.cells := by
  subst hX
  rcases valid_cases h with rfl | rfl | rfl | rfl | rfl | rfl | rfl
  all_goals simp [Rg.cells, Rg.byte, Rg.putByte, n1, n2]
end Go.Proofs.Ytfhegloobldokaa
