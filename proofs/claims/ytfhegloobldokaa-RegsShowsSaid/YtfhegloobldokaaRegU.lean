/- squealref06: Pair, whole. -/
import Derived.Test.YtfhegloobldokaaRegT
namespace Go.Proofs.Ytfhegloobldokaa
set_option linter.unusedSimpArgs false
set_option linter.unusedVariables false
open Go.RowKit
set_option maxHeartbeats 4000000 in
theorem refPair_3 (r : Rg) (C : Array Value) (hC : C = r.cells.toArray) (ix : Int) (w : World) :
    Calls Try.prog 22 #[.agg C, .int .i64 3, .int .i64 ix] w fun e w' => e = .returned (.int .u16 r.sp) ∧ Below w.heap.size w w' := by
  have c21 : (w.alloc (.cells C 24)).cell? ⟨w.heap.size, 21, none⟩ = some (.int .u16 r.sp) := by
    rw [hC]
    exact (Blk.new w 24 r.cells).cell 21
  clear hC
  go_enter Try.func22, Try.ntmps22
  go_wp2_with fail
  go_ret
  exact ⟨rfl, (Below.refl _ _).alloc (Nat.le_refl _) _⟩
set_option maxHeartbeats 4000000 in
theorem refPair_no (C : Array Value) (k ix : Int) (w : World) (h : k < 0 ∨ 3 < k) :
    Calls Try.prog 22 #[.agg C, .int .i64 k, .int .i64 ix] w fun e w' => e = .returned (.int .u16 0) ∧ Below w.heap.size w w' := by
  have k3 : (k == 3) = false := by simp; omega
  rcases h with h | h
  · go_enter Try.func22, Try.ntmps22
    go_wp2_with fail
    go_ret
    exact ⟨rfl, (Below.refl _ _).alloc (Nat.le_refl _) _⟩
  · go_enter Try.func22, Try.ntmps22
    go_wp2_with fail
    go_ret
    exact ⟨rfl, (Below.refl _ _).alloc (Nat.le_refl _) _⟩
theorem refPair_any (r : Rg) (hr : r.Ok) (C : Array Value) (hC : C = r.cells.toArray) (k ix : Int) (w : World) :
    Calls Try.prog 22 #[.agg C, .int .i64 k, .int .i64 ix] w fun e w' => e = .returned (.int .u16 (r.pair k ix)) ∧ Below w.heap.size w w' := by
  have kk : k = 0 ∨ k = 1 ∨ k = 2 ∨ k = 3 ∨ (k < 0 ∨ 3 < k) := by omega
  rcases kk with rfl | rfl | rfl | rfl | h
  · exact refPair_0 r hr C hC ix w
  · exact refPair_1 r hr C hC ix w
  · exact refPair_2 r hr C hC ix w
  · have e : r.pair 3 ix = r.sp := by simp [Rg.pair]
    rw [e]
    exact refPair_3 r C hC ix w
  · have n : k ≠ 0 ∧ k ≠ 1 ∧ k ≠ 2 ∧ k ≠ 3 := by omega
    have e : r.pair k ix = 0 := by simp [Rg.pair, n]
    rw [e]
    exact refPair_no C k ix w h
end Go.Proofs.Ytfhegloobldokaa
