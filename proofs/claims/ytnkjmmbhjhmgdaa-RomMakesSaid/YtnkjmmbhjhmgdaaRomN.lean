/- The law RomMakes. -/
import Derived.Test.YtnkjmmbhjhmgdaaRomM
import Derived.Test.YtnkjmmbhjhmgdaaRomJ
import Derived.Deep.DeepCutAuto
namespace Go.Proofs.Ytnkjmmbhjhmgdaa
set_option linter.unusedSimpArgs false
set_option linter.unusedVariables false
open Go.RowKit Go.Maps Go.Sort
def inB (n lo hi : Int) : Bool := decide (lo ≤ n ∧ n ≤ hi)
theorem law_in (n lo hi : Int) (w : World) : Calls Try.prog 4 #[.int .i64 n, .int .i64 lo, .int .i64 hi] w fun e w' => e = .returned (.bool (inB n lo hi)) ∧ w = w' := by
  go_enter Try.func4, Try.ntmps4
  unfold inB
  by_cases h1 : lo ≤ n
  · by_cases h2 : n ≤ hi
    · have e : decide (lo ≤ n ∧ n ≤ hi) = true := by simp; omega
      rw [e]
      go_wp2_with fail
      go_ret
      exact ⟨rfl, rfl⟩
    · have e : decide (lo ≤ n ∧ n ≤ hi) = false := by simp; omega
      rw [e]
      go_wp2_with fail
      go_ret
      exact ⟨rfl, rfl⟩
  · have e : decide (lo ≤ n ∧ n ≤ hi) = false := by simp; omega
    rw [e]
    go_wp2_with fail
    go_ret
    exact ⟨rfl, rfl⟩
theorem may_in (t : TimL) (n : Int) : mayT t n = (inB n 1 65534 && (inB t.pilot 86 65535 && (inB t.sync1 86 65535 && (inB t.sync2 32 65535 && (inB t.zero 192 65535 && inB t.one 192 65535))))) := by
  unfold mayT inB
  rw [Bool.eq_iff_iff]
  simp
  omega
theorem law_ours (t : TimL) (w : World) : Calls Try.prog 6 #[timV t] w fun e w' => e = .returned (timV t) ∧ Below w.heap.size w w' := by
  unfold timV
  go_enter Try.func6, Try.ntmps6
  go_wp2_with fail
  refine bodyPost_ret (v := timV t) (by simp [results, Try.results6, go_sem, timV]) rfl ⟨rfl, ?_⟩
  repeat (with_reducible refine Below.setCell ?_ (by simp) _)
  first
    | exact ((Below.refl _ w).alloc (Nat.le_refl _) _).alloc (by simp) _
    | exact below_alloc1 w _
theorem samp_855 : sampF 855 = 9233 := by decide
theorem law_lives (w : World) : Calls Try.prog 8 #[] w fun e w' => e = .returned (.bool true) ∧ w = w' := by
  have h := Lib.hid (sample_tail 855 855 (by omega) (by omega) w (by decide))
  rw [samp_855] at h
  go_enter Try.func8, Try.ntmps8
  go_wp2_with (first
    | (go_at_call 9; refine h.out.mono ?_; rintro e w2 ⟨rfl, rfl⟩))
  go_ret
  exact ⟨rfl, rfl⟩
/-- what a loader goes by, as the law has it -/
theorem samp_law (z : Int) (h0 : -100000 ≤ z) (h1 : z ≤ 10000000) (y : Int) (hy : y = max 0 z) : sampF z = 256 * withinF (y * 46 / 1000 - 3) + withinF (y * 23 / 1000 - 2) := by
  have e1 : withinF (46 * max 0 (min z 65535) / 1000 - 3) = withinF (y * 46 / 1000 - 3) := by unfold withinF; omega
  have e2 : withinF (23 * max 0 (min z 65535) / 1000 - 2) = withinF (y * 23 / 1000 - 2) := by unfold withinF; omega
  unfold sampF
  rw [e1, e2]
  omega
end Go.Proofs.Ytnkjmmbhjhmgdaa
