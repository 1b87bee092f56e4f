/- op.Memory. -/
import Derived.Test.YtbhpmnhlmeglcaaGreatTMicZ
namespace Go.Proofs.YtbhpmnhlmeglcaaGreat
set_option linter.unusedSimpArgs false
set_option linter.unusedVariables false
open Go.RowKit
namespace Mi
def memS (c : Int) : Bool := if c / 64 = 0 then decide (c / 8 % 8 = 6 ∧ 4 ≤ c % 8 ∧ c % 8 ≤ 6) else if c / 64 = 1 then decide (c ≠ 118 ∧ (c / 8 % 8 = 6 ∨ c % 8 = 6)) else if c / 64 = 2 then decide (c % 8 = 6) else false
end Mi
set_option maxHeartbeats 400000 in
theorem opx_any (c : Int) (w : World) (h0 : 0 ≤ c) (h1 : c ≤ 255) : Calls Tryz.prog 155 #[.int .u8 c] w fun e w' => e = .returned (.int .i64 (c / 64)) ∧ w = w' := by
  go_enter Tryz.func155, Tryz.ntmps155
  go_wp2
  go_ret
  exact ⟨rfl, rfl⟩
set_option maxHeartbeats 400000 in
theorem opy_any (c : Int) (w : World) (h0 : 0 ≤ c) (h1 : c ≤ 255) : Calls Tryz.prog 156 #[.int .u8 c] w fun e w' => e = .returned (.int .i64 (c / 8 % 8)) ∧ w = w' := by
  have e := u8_and_7 (c / 8) (by omega) (by omega)
  go_enter Tryz.func156, Tryz.ntmps156
  go_wp2
  go_ret
  exact ⟨rfl, rfl⟩
set_option maxHeartbeats 400000 in
theorem opz_any (c : Int) (w : World) (h0 : 0 ≤ c) (h1 : c ≤ 255) : Calls Tryz.prog 157 #[.int .u8 c] w fun e w' => e = .returned (.int .i64 (c % 8)) ∧ w = w' := by
  have e := u8_and_7 c (by omega) (by omega)
  go_enter Tryz.func157, Tryz.ntmps157
  go_wp2
  go_ret
  exact ⟨rfl, rfl⟩
structure OpParts (c x y z : Int) : Prop where
  x : ∀ w, Calls Tryz.prog 155 #[.int .u8 c] w fun e w' => e = .returned (.int .i64 x) ∧ w = w'
  y : ∀ w, Calls Tryz.prog 156 #[.int .u8 c] w fun e w' => e = .returned (.int .i64 y) ∧ w = w'
  z : ∀ w, Calls Tryz.prog 157 #[.int .u8 c] w fun e w' => e = .returned (.int .i64 z) ∧ w = w'
theorem op_parts (c : Int) (h0 : 0 ≤ c) (h1 : c ≤ 255) : OpParts c (c / 64) (c / 8 % 8) (c % 8) :=
  ⟨fun w => opx_any c w h0 h1, fun w => opy_any c w h0 h1, fun w => opz_any c w h0 h1⟩
set_option maxHeartbeats 4000000 in
theorem mem_any (c : Int) (w : World) (h0 : 0 ≤ c) (h1 : c ≤ 255) : Calls Tryz.prog 138 #[.int .u8 c] w fun e w' => e = .returned (.bool (Mi.memS c)) ∧ w = w' := by
  obtain ⟨R, hR⟩ : ∃ R, R = Mi.memS c := ⟨_, rfl⟩
  rw [← hR]
  unfold Mi.memS at hR
  have H := op_parts c h0 h1
  obtain ⟨X, hX⟩ : ∃ X, X = c / 64 := ⟨_, rfl⟩
  obtain ⟨Y, hY⟩ : ∃ Y, Y = c / 8 % 8 := ⟨_, rfl⟩
  obtain ⟨Z, hZ⟩ : ∃ Z, Z = c % 8 := ⟨_, rfl⟩
  have bX : X = 0 ∨ X = 1 ∨ X = 2 ∨ X = 3 := by omega
  have bZ : Z = 0 ∨ Z = 1 ∨ Z = 2 ∨ Z = 3 ∨ Z = 4 ∨ Z = 5 ∨ Z = 6 ∨ Z = 7 := by omega
  rw [← hX, ← hY, ← hZ] at H
  rw [← hX, ← hY, ← hZ] at hR
  have kc : c = 118 ∧ X = 1 ∧ Y = 6 ∧ Z = 6 ∨ c ≠ 118 := by omega
  have H := Lib.hid H
  clear hX hY hZ
  have kY : Y = 6 ∨ Y ≠ 6 := by omega
  rcases kc with ⟨rfl, rfl, rfl, rfl⟩ | kc
  · simp at hR
    subst hR
    go_enter Tryz.func138, Tryz.ntmps138
    go_wp2_with (first
      | (go_at_call 157; refine (H.out.z _).mono ?_; rintro e w' ⟨rfl, rfl⟩)
      | (go_at_call 156; refine (H.out.y _).mono ?_; rintro e w' ⟨rfl, rfl⟩)
      | (go_at_call 155; refine (H.out.x _).mono ?_; rintro e w' ⟨rfl, rfl⟩))
    go_ret
    exact ⟨rfl, rfl⟩
  have kb : (c == 118) = false := by simp [kc]
  have kn : (c != 118) = true := by simp [kc]
  rcases kY with rfl | kY
  · rcases bX with rfl | rfl | rfl | rfl <;> rcases bZ with rfl | rfl | rfl | rfl | rfl | rfl | rfl | rfl
    all_goals
      simp [kc] at hR
      subst hR
      go_enter Tryz.func138, Tryz.ntmps138
      go_wp2_with (first
        | (go_at_call 157; refine (H.out.z _).mono ?_; rintro e w' ⟨rfl, rfl⟩)
        | (go_at_call 156; refine (H.out.y _).mono ?_; rintro e w' ⟨rfl, rfl⟩)
        | (go_at_call 155; refine (H.out.x _).mono ?_; rintro e w' ⟨rfl, rfl⟩))
      go_ret
      exact ⟨rfl, rfl⟩
  · have yb : (Y == 6) = false := by simp [kY]
    rcases bX with rfl | rfl | rfl | rfl <;> rcases bZ with rfl | rfl | rfl | rfl | rfl | rfl | rfl | rfl
    all_goals
      simp [kc, kY] at hR
      subst hR
      go_enter Tryz.func138, Tryz.ntmps138
      go_wp2_with (first
        | (go_at_call 157; refine (H.out.z _).mono ?_; rintro e w' ⟨rfl, rfl⟩)
        | (go_at_call 156; refine (H.out.y _).mono ?_; rintro e w' ⟨rfl, rfl⟩)
        | (go_at_call 155; refine (H.out.x _).mono ?_; rintro e w' ⟨rfl, rfl⟩))
      go_ret
      exact ⟨rfl, rfl⟩
end Go.Proofs.YtbhpmnhlmeglcaaGreat
