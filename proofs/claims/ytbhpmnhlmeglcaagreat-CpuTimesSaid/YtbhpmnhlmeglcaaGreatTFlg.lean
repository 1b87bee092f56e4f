/- flag, bulk: F as a number. -/
import Derived.Test.YtbhpmnhlmeglcaaGreatTCpuZ
namespace Go.Proofs.YtbhpmnhlmeglcaaGreat
set_option linter.unusedSimpArgs false
set_option linter.unusedVariables false
open Go.RowKit
def withV (f b : Int) (on : Bool) : Int := if on then bits .or .u8 f b else bits .andNot .u8 f b
theorem with_any (f b : Int) (on : Bool) (w : World) : Calls Tryz.prog 122 #[.int .u8 f, .int .u8 b, .bool on] w fun e w' => e = .returned (.int .u8 (withV f b on)) ∧ w = w' := by
  unfold withV
  cases on
  all_goals
    go_enter Tryz.func122, Tryz.ntmps122
    go_wp2
    go_ret
    exact ⟨rfl, rfl⟩
/-- a bit of a byte -/
def bitV (n k : Int) : Bool := bits .and .u8 (n / k) 1 == 1
def sumV (n : Int) : Int := withV (withV 0 32 (bitV n 2)) 8 (bitV n 8)
set_option maxHeartbeats 2000000 in
theorem sum_any (n : Int) (w : World) (hn : B8 n) : Calls Tryz.prog 154 #[.int .u8 n] w fun e w' => e = .returned (.int .u8 (sumV n)) ∧ w = w' := by
  obtain ⟨n0, n1⟩ := hn
  unfold sumV bitV
  have i0 : ∀ w, (Instr.index 140 (.agg #[.int .u8 32, .int .u8 8]) (.int .i64 0)).run Tryz.prog w = .ok (.int .u8 32) w := fun _ => by kernel_rfl
  have i1 : ∀ w, (Instr.index 140 (.agg #[.int .u8 32, .int .u8 8]) (.int .i64 1)).run Tryz.prog w = .ok (.int .u8 8) w := fun _ => by kernel_rfl
  go_enter Tryz.func154, Tryz.ntmps154
  go_wp2
  refine wp_loop_rounds 3 ?_
  iterate 3
    rw [rounds_succ]
    go_wp2_with (first
      | (go_at_call 122; refine (with_any _ _ _ _).mono ?_; rintro e w' ⟨rfl, rfl⟩))
  go_ret
  exact ⟨rfl, rfl⟩
theorem b8_bits (op : BinOp) (a b : Int) : B8 (bits op .u8 a b) := by
  have h : ∀ x : Int, B8 (IntKind.u8.wrap x) := fun x => ⟨by rw [IntKind.wrap_u8]; omega, by rw [IntKind.wrap_u8]; omega⟩
  exact h _
def copyV (a v bc f : Int) : Int := withV (bits .or .u8 (bits .and .u8 f 193) (sumV ((a + v) % 256))) 4 (bc != 0)
set_option maxHeartbeats 2000000 in
theorem copy_any (a v bc f : Int) (w : World) (ha : B8 a) (hv : B8 v) : Calls Tryz.prog 130 #[.int .u8 a, .int .u8 v, .int .u16 bc, .int .u8 f] w fun e w' => e = .returned (.int .u8 (copyV a v bc f)) ∧ w = w' := by
  have hs : B8 ((a + v) % 256) := ⟨by omega, by omega⟩
  have wr : IntKind.u8.wrap (a + v) = (a + v) % 256 := IntKind.wrap_u8 _
  unfold copyV
  clear ha hv
  go_enter Tryz.func130, Tryz.ntmps130
  go_wp2_with (first
    | (go_at_call 122; refine (with_any _ _ _ _).mono ?_; rintro e w' ⟨rfl, rfl⟩)
    | (go_at_call 154; refine (sum_any _ _ hs).mono ?_; rintro e w' ⟨rfl, rfl⟩))
  go_ret
  exact ⟨rfl, rfl⟩
def againV (f pc : Int) : Int := bits .or .u8 (bits .andNot .u8 f 40) (bits .and .u8 (pc / 256) 40)
set_option maxHeartbeats 2000000 in
theorem again_any (f pc : Int) (w : World) (hp : B16 pc) : Calls Tryz.prog 134 #[.int .u8 f, .int .u16 pc] w fun e w' => e = .returned (.int .u8 (againV f pc)) ∧ w = w' := by
  obtain ⟨p0, p1⟩ := hp
  unfold againV
  go_enter Tryz.func134, Tryz.ntmps134
  go_wp2
  go_ret
  exact ⟨rfl, rfl⟩
end Go.Proofs.YtbhpmnhlmeglcaaGreat
