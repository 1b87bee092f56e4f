/- squealref08: Less, More: how many T-states. -/
import Derived.Test.YtfhegloobldokaaMicN
namespace Go.Proofs.Ytfhegloobldokaa
set_option linter.unusedSimpArgs false
set_option linter.unusedVariables false
open Go.RowKit
namespace Mi
def lessS (c : Int) : Int :=
  if c = 16 ∨ c = 32 ∨ c = 40 ∨ c = 48 ∨ c = 56 then 5 else if 192 ≤ c ∧ c % 8 = 0 then 6 else if 192 ≤ c ∧ c % 8 = 4 then 7 else 0
end Mi
set_option maxRecDepth 100000 in
set_option maxHeartbeats 1000000 in
theorem less_any (c : Int) (h0 : 0 ≤ c) (h1 : c ≤ 255) (w : World) : Calls Try.prog 58 #[.int .u8 c] w fun e w' => e = .returned (.int .i64 (Mi.lessS c)) ∧ Below w.heap.size w w' := by
  obtain ⟨R, hR⟩ : ∃ R, R = Mi.lessS c := ⟨_, rfl⟩
  rw [← hR]
  unfold Mi.lessS at hR
  by_cases k : c = 16 ∨ c = 32 ∨ c = 40 ∨ c = 48 ∨ c = 56
  · rw [if_pos k] at hR
    subst hR
    rcases k with rfl | rfl | rfl | rfl | rfl
    all_goals
      go_enter Try.func58, Try.ntmps58
      go_wp2
      go_ret
      exact ⟨rfl, Below.refl _ _⟩
  · rw [if_neg k] at hR
    have k1 : (c == 16) = false := by simp; omega
    have k2 : (c == 32) = false := by simp; omega
    have k3 : (c == 40) = false := by simp; omega
    have k4 : (c == 48) = false := by simp; omega
    have k5 : (c == 56) = false := by simp; omega
    have HR := Lib.hid hR
    clear hR k
    have hz : c % 8 = 0 ∨ c % 8 = 1 ∨ c % 8 = 2 ∨ c % 8 = 3 ∨ c % 8 = 4 ∨ c % 8 = 5 ∨ c % 8 = 6 ∨ c % 8 = 7 := by omega
    by_cases k6 : 192 ≤ c
    · rcases hz with z | z | z | z | z | z | z | z
      all_goals
        go_enter Try.func58, Try.ntmps58
        go_wp2
        go_ret
        exact ⟨by rw [HR.out]; exact congrArg (fun x => Ending.returned (Value.int .i64 x)) (by (first | rw [if_pos (by omega)] | rw [if_neg (by omega), if_pos (by omega)] | rw [if_neg (by omega), if_neg (by omega)])), Below.refl _ _⟩
    · go_enter Try.func58, Try.ntmps58
      go_wp2
      go_ret
      exact ⟨by rw [HR.out, if_neg (by omega), if_neg (by omega)]; rfl, Below.refl _ _⟩
end Go.Proofs.Ytfhegloobldokaa
