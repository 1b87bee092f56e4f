/- CpuCalls: when there is nothing to be called. -/
import Derived.Test.YtbhpmnhlmeglcaaGreatCpuZA
import Derived.Test.YtbhpmnhlmeglcaaGreatCpuU
import Derived.BigQuiet
namespace Go.Proofs.YtbhpmnhlmeglcaaGreat
set_option linter.unusedSimpArgs false
set_option linter.unusedVariables false
open Go.RowKit
set_option maxRecDepth 100000 in
set_option maxHeartbeats 4000000 in
theorem cpucalls_out (r : Rg) (hr : r.Ok) (tg : Int) (w : World) (h : r.pc < 100 ∨ 30000 < r.pc ∨ r.sp < 32000 ∨ 40000 < r.sp ∨ tg < 50000 ∨ 65000 < tg) : Calls Tryz.prog 4 #[.agg r.cells.toArray, .int .u16 tg] w fun e w' => e = .returned (.bool true) ∧ Below w.heap.size w w' := by
  have key : r.pc < 100 ∨ (¬ r.pc < 100 ∧ 30000 < r.pc) ∨ (¬ r.pc < 100 ∧ ¬ 30000 < r.pc ∧ r.sp < 32000) ∨ (¬ r.pc < 100 ∧ ¬ 30000 < r.pc ∧ ¬ r.sp < 32000 ∧ 40000 < r.sp) ∨ (¬ r.pc < 100 ∧ ¬ 30000 < r.pc ∧ ¬ r.sp < 32000 ∧ ¬ 40000 < r.sp ∧ tg < 50000) ∨ (¬ r.pc < 100 ∧ ¬ 30000 < r.pc ∧ ¬ r.sp < 32000 ∧ ¬ 40000 < r.sp ∧ ¬ tg < 50000 ∧ 65000 < tg) := by omega
  have v1 : IntKind.i64.wrap r.pc = r.pc := by obtain ⟨a, b⟩ := hr.pc; rw [IntKind.wrap_i64]; omega
  have v2 : IntKind.i64.wrap r.sp = r.sp := by obtain ⟨a, b⟩ := hr.sp; rw [IntKind.wrap_i64]; omega
  have c22 : (w.alloc (.cells r.cells.toArray 24)).cell? ⟨w.heap.size, 22, none⟩ = some (.int .u16 r.pc) := (Blk.new w _ r.cells).cell 22
  have c21 : (w.alloc (.cells r.cells.toArray 24)).cell? ⟨w.heap.size, 21, none⟩ = some (.int .u16 r.sp) := (Blk.new w _ r.cells).cell 21
  have HB0 : Hid (Below w.heap.size w (w.alloc (.cells r.cells.toArray 24))) := Lib.hid ((Below.refl _ w).alloc (Nat.le_refl _) _)
  have HS0 : Hid (w.heap.size ≤ (w.alloc (.cells r.cells.toArray 24)).heap.size) := Lib.hid HB0.out.size
  obtain ⟨pc, hpc⟩ : ∃ p, p = r.pc := ⟨_, rfl⟩
  obtain ⟨sp, hsp⟩ : ∃ p, p = r.sp := ⟨_, rfl⟩
  rw [← hpc] at key v1 c22
  rw [← hsp] at key v2 c21
  obtain ⟨C, hC⟩ : ∃ C, C = r.cells.toArray := ⟨_, rfl⟩
  rw [← hC] at c22 c21 HB0 HS0 ⊢
  clear h hr hpc hsp hC
  rcases key with d1 | ⟨d1, d2⟩ | ⟨d1, d2, d3⟩ | ⟨d1, d2, d3, d4⟩ | ⟨d1, d2, d3, d4, d5⟩ | ⟨d1, d2, d3, d4, d5, d6⟩
  all_goals
    go_enter Tryz.func4, Tryz.ntmps4
    go_wp2_with fail
    go_quiet (fail)
    go_wp2_with (first
      | (go_at_call 8; refine (lives12 _).mono ?_; rintro e w1 ⟨rfl, hb1⟩))
    go_ret
    exact ⟨rfl, (Below_drewN HB0.out nq).trans (hb1.mono (by simp))⟩
end Go.Proofs.YtbhpmnhlmeglcaaGreat
