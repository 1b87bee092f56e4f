/- Registers that are the same; R, counted. -/
import Derived.Test.YtfhegloobldokaaRegK
namespace Go.Proofs.Ytfhegloobldokaa
set_option linter.unusedSimpArgs false
set_option linter.unusedVariables false
open Go.RowKit
set_option maxRecDepth 100000 in
set_option maxHeartbeats 4000000 in
theorem eq_regs (r : Rg) (u : World) : (binOp .eql 24 (.agg r.cells.toArray) (.agg r.cells.toArray)).run Try.prog u = .ok (.bool true) u := by
  simp [Rg.cells, go_sem]
/-- R, counted n times -/
def Rg.ticked (r : Rg) (n : Nat) : Rg := { r with r := r.r / 128 * 128 + (r.r + n) % 128 }
theorem Rg.with_r (r : Rg) (x : Int) (h : x = r.r) : { r with r := x } = r := by subst h; rfl
theorem Rg.ticked_zero (r : Rg) (h : B8 r.r) : r.ticked 0 = r := by
  obtain ⟨h0, h1⟩ := h
  exact r.with_r _ (by show r.r / 128 * 128 + (r.r + ((0 : Nat) : Int)) % 128 = r.r; omega)
theorem Rg.ticked_all (r : Rg) (h : B8 r.r) : r.ticked 128 = r := by
  obtain ⟨h0, h1⟩ := h
  exact r.with_r _ (by show r.r / 128 * 128 + (r.r + ((128 : Nat) : Int)) % 128 = r.r; omega)
theorem Rg.ticked_b8 (r : Rg) (n : Nat) (h : B8 r.r) : B8 (r.ticked n).r := by
  obtain ⟨h0, h1⟩ := h
  exact ⟨by show 0 ≤ r.r / 128 * 128 + (r.r + (n : Int)) % 128; omega, by show r.r / 128 * 128 + (r.r + (n : Int)) % 128 ≤ 255; omega⟩
theorem Rg.ticked_next (r : Rg) (n : Nat) (h : B8 r.r) : { r.ticked n with r := (r.ticked n).r / 128 * 128 + ((r.ticked n).r + 1) % 128 } = r.ticked (n + 1) := by
  obtain ⟨h0, h1⟩ := h
  have e : (r.r / 128 * 128 + (r.r + (n : Int)) % 128) / 128 * 128 + ((r.r / 128 * 128 + (r.r + (n : Int)) % 128) + 1) % 128 = r.r / 128 * 128 + (r.r + ((n + 1 : Nat) : Int)) % 128 := by omega
  show { r with r := (r.r / 128 * 128 + (r.r + (n : Int)) % 128) / 128 * 128 + ((r.r / 128 * 128 + (r.r + (n : Int)) % 128) + 1) % 128 } = { r with r := r.r / 128 * 128 + (r.r + ((n + 1 : Nat) : Int)) % 128 }
  rw [e]
end Go.Proofs.Ytfhegloobldokaa
