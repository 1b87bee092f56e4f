/- A ROM that is put together: which timings may be. -/
import Derived.Test.YtnkjmmbhjhmgdaaRomB
namespace Go.Proofs.Ytnkjmmbhjhmgdaa
set_option linter.unusedSimpArgs false
set_option linter.unusedVariables false
open Go.RowKit Go.Maps Go.Sort
/-- which timings may be -/
def MayT (t : TimL) (n : Int) : Prop := 1 ≤ n ∧ n ≤ 65534 ∧ 86 ≤ t.pilot ∧ t.pilot ≤ 65535 ∧ 86 ≤ t.sync1 ∧ t.sync1 ≤ 65535 ∧ 32 ≤ t.sync2 ∧ t.sync2 ≤ 65535 ∧ 192 ≤ t.zero ∧ t.zero ≤ 65535 ∧ 192 ≤ t.one ∧ t.one ≤ 65535
def mayT (t : TimL) (n : Int) : Bool := decide (1 ≤ n ∧ n ≤ 65534 ∧ 86 ≤ t.pilot ∧ t.pilot ≤ 65535 ∧ 86 ≤ t.sync1 ∧ t.sync1 ≤ 65535 ∧ 32 ≤ t.sync2 ∧ t.sync2 ≤ 65535 ∧ 192 ≤ t.zero ∧ t.zero ≤ 65535 ∧ 192 ≤ t.one ∧ t.one ≤ 65535)
/-- what is known behind so many rounds -/
def MayK (t : TimL) (n : Int) (k : Nat) : Prop := (1 ≤ k → 1 ≤ n ∧ n ≤ 65535) ∧ (2 ≤ k → 86 ≤ t.pilot ∧ t.pilot ≤ 65535) ∧ (3 ≤ k → 86 ≤ t.sync1 ∧ t.sync1 ≤ 65535) ∧ (4 ≤ k → 32 ≤ t.sync2 ∧ t.sync2 ≤ 65535) ∧ (5 ≤ k → 192 ≤ t.zero ∧ t.zero ≤ 65535) ∧ (6 ≤ k → 192 ≤ t.one ∧ t.one ≤ 65535)
set_option maxRecDepth 100000 in
set_option maxHeartbeats 8000000 in
theorem rom_may (t : TimL) (n : Int) (w : World) : Calls Try.prog 7 #[timV t, .int .i64 n] w fun e w' => e = .returned (.bool (mayT t n)) ∧ Below w.heap.size w w' := by
  obtain ⟨a1, a2, a3, a4, a5⟩ := t
  unfold timV
  go_enter Try.func7, Try.ntmps7
  go_upto_region 2 with fail
  go_loopw [25] (fun i u => ∃ k : Nat, k ≤ 6 ∧ i = .int .i64 k ∧ Hid (MayK ⟨a1, a2, a3, a4, a5⟩ n k) ∧ Hid (Below w.heap.size w u)) (fun i _ => 6 - (intOf i).toNat)
  case atStart => exact ⟨0, by omega, rfl, Lib.hid (by unfold MayK; omega), Lib.hid (below_alloc1 w _)⟩
  case round =>
    obtain ⟨k, hk, rfl, HK, HB⟩ := hrel
    obtain rfl | rfl | rfl | rfl | rfl | rfl | rfl : k = 0 ∨ k = 1 ∨ k = 2 ∨ k = 3 ∨ k = 4 ∨ k = 5 ∨ k = 6 := by omega
    · have ik : ∀ u : World, (Instr.index 48 (.agg #[.int .i64 n, .int .i64 1, .int .i64 a1, .int .i64 86, .int .i64 a2, .int .i64 86, .int .i64 a3, .int .i64 32, .int .i64 a4, .int .i64 192, .int .i64 a5, .int .i64 192]) (.int .i64 0)).run Try.prog u = .ok (.agg #[.int .i64 n, .int .i64 1]) u := fun _ => by kernel_rfl
      by_cases h1 : n < 1
      · go_wp2_with fail
        go_ret
        have e : mayT ⟨a1, a2, a3, a4, a5⟩ n = false := by unfold mayT; simp; omega
        rw [e]
        refine ⟨rfl, ?_⟩
        repeat (with_reducible refine Below.setCell ?_ (by have := HB.out.size; simp; omega) _)
        exact HB.out.alloc HB.out.size _
      · by_cases h2 : 65535 < n
        · go_wp2_with fail
          go_ret
          have e : mayT ⟨a1, a2, a3, a4, a5⟩ n = false := by unfold mayT; simp; omega
          rw [e]
          refine ⟨rfl, ?_⟩
          repeat (with_reducible refine Below.setCell ?_ (by have := HB.out.size; simp; omega) _)
          exact HB.out.alloc HB.out.size _
        · go_wp2_with fail
          go_roundw
          case rel =>
            refine ⟨0 + 1, by omega, by go_num, Lib.hid (by have := HK.out; unfold MayK at this ⊢; simp at this h1 h2 ⊢; omega), Lib.hid ?_⟩
            repeat (with_reducible refine Below.setCell ?_ (by have := HB.out.size; simp; omega) _)
            exact HB.out.alloc HB.out.size _
          case measure => simp [intOf]
    · have ik : ∀ u : World, (Instr.index 48 (.agg #[.int .i64 n, .int .i64 1, .int .i64 a1, .int .i64 86, .int .i64 a2, .int .i64 86, .int .i64 a3, .int .i64 32, .int .i64 a4, .int .i64 192, .int .i64 a5, .int .i64 192]) (.int .i64 1)).run Try.prog u = .ok (.agg #[.int .i64 a1, .int .i64 86]) u := fun _ => by kernel_rfl
      by_cases h1 : a1 < 86
      · go_wp2_with fail
        go_ret
        have e : mayT ⟨a1, a2, a3, a4, a5⟩ n = false := by unfold mayT; simp; omega
        rw [e]
        refine ⟨rfl, ?_⟩
        repeat (with_reducible refine Below.setCell ?_ (by have := HB.out.size; simp; omega) _)
        exact HB.out.alloc HB.out.size _
      · by_cases h2 : 65535 < a1
        · go_wp2_with fail
          go_ret
          have e : mayT ⟨a1, a2, a3, a4, a5⟩ n = false := by unfold mayT; simp; omega
          rw [e]
          refine ⟨rfl, ?_⟩
          repeat (with_reducible refine Below.setCell ?_ (by have := HB.out.size; simp; omega) _)
          exact HB.out.alloc HB.out.size _
        · go_wp2_with fail
          go_roundw
          case rel =>
            refine ⟨1 + 1, by omega, by go_num, Lib.hid (by have := HK.out; unfold MayK at this ⊢; simp at this h1 h2 ⊢; omega), Lib.hid ?_⟩
            repeat (with_reducible refine Below.setCell ?_ (by have := HB.out.size; simp; omega) _)
            exact HB.out.alloc HB.out.size _
          case measure => simp [intOf]
    · have ik : ∀ u : World, (Instr.index 48 (.agg #[.int .i64 n, .int .i64 1, .int .i64 a1, .int .i64 86, .int .i64 a2, .int .i64 86, .int .i64 a3, .int .i64 32, .int .i64 a4, .int .i64 192, .int .i64 a5, .int .i64 192]) (.int .i64 2)).run Try.prog u = .ok (.agg #[.int .i64 a2, .int .i64 86]) u := fun _ => by kernel_rfl
      by_cases h1 : a2 < 86
      · go_wp2_with fail
        go_ret
        have e : mayT ⟨a1, a2, a3, a4, a5⟩ n = false := by unfold mayT; simp; omega
        rw [e]
        refine ⟨rfl, ?_⟩
        repeat (with_reducible refine Below.setCell ?_ (by have := HB.out.size; simp; omega) _)
        exact HB.out.alloc HB.out.size _
      · by_cases h2 : 65535 < a2
        · go_wp2_with fail
          go_ret
          have e : mayT ⟨a1, a2, a3, a4, a5⟩ n = false := by unfold mayT; simp; omega
          rw [e]
          refine ⟨rfl, ?_⟩
          repeat (with_reducible refine Below.setCell ?_ (by have := HB.out.size; simp; omega) _)
          exact HB.out.alloc HB.out.size _
        · go_wp2_with fail
          go_roundw
          case rel =>
            refine ⟨2 + 1, by omega, by go_num, Lib.hid (by have := HK.out; unfold MayK at this ⊢; simp at this h1 h2 ⊢; omega), Lib.hid ?_⟩
            repeat (with_reducible refine Below.setCell ?_ (by have := HB.out.size; simp; omega) _)
            exact HB.out.alloc HB.out.size _
          case measure => simp [intOf]
    · have ik : ∀ u : World, (Instr.index 48 (.agg #[.int .i64 n, .int .i64 1, .int .i64 a1, .int .i64 86, .int .i64 a2, .int .i64 86, .int .i64 a3, .int .i64 32, .int .i64 a4, .int .i64 192, .int .i64 a5, .int .i64 192]) (.int .i64 3)).run Try.prog u = .ok (.agg #[.int .i64 a3, .int .i64 32]) u := fun _ => by kernel_rfl
      by_cases h1 : a3 < 32
      · go_wp2_with fail
        go_ret
        have e : mayT ⟨a1, a2, a3, a4, a5⟩ n = false := by unfold mayT; simp; omega
        rw [e]
        refine ⟨rfl, ?_⟩
        repeat (with_reducible refine Below.setCell ?_ (by have := HB.out.size; simp; omega) _)
        exact HB.out.alloc HB.out.size _
      · by_cases h2 : 65535 < a3
        · go_wp2_with fail
          go_ret
          have e : mayT ⟨a1, a2, a3, a4, a5⟩ n = false := by unfold mayT; simp; omega
          rw [e]
          refine ⟨rfl, ?_⟩
          repeat (with_reducible refine Below.setCell ?_ (by have := HB.out.size; simp; omega) _)
          exact HB.out.alloc HB.out.size _
        · go_wp2_with fail
          go_roundw
          case rel =>
            refine ⟨3 + 1, by omega, by go_num, Lib.hid (by have := HK.out; unfold MayK at this ⊢; simp at this h1 h2 ⊢; omega), Lib.hid ?_⟩
            repeat (with_reducible refine Below.setCell ?_ (by have := HB.out.size; simp; omega) _)
            exact HB.out.alloc HB.out.size _
          case measure => simp [intOf]
    · have ik : ∀ u : World, (Instr.index 48 (.agg #[.int .i64 n, .int .i64 1, .int .i64 a1, .int .i64 86, .int .i64 a2, .int .i64 86, .int .i64 a3, .int .i64 32, .int .i64 a4, .int .i64 192, .int .i64 a5, .int .i64 192]) (.int .i64 4)).run Try.prog u = .ok (.agg #[.int .i64 a4, .int .i64 192]) u := fun _ => by kernel_rfl
      by_cases h1 : a4 < 192
      · go_wp2_with fail
        go_ret
        have e : mayT ⟨a1, a2, a3, a4, a5⟩ n = false := by unfold mayT; simp; omega
        rw [e]
        refine ⟨rfl, ?_⟩
        repeat (with_reducible refine Below.setCell ?_ (by have := HB.out.size; simp; omega) _)
        exact HB.out.alloc HB.out.size _
      · by_cases h2 : 65535 < a4
        · go_wp2_with fail
          go_ret
          have e : mayT ⟨a1, a2, a3, a4, a5⟩ n = false := by unfold mayT; simp; omega
          rw [e]
          refine ⟨rfl, ?_⟩
          repeat (with_reducible refine Below.setCell ?_ (by have := HB.out.size; simp; omega) _)
          exact HB.out.alloc HB.out.size _
        · go_wp2_with fail
          go_roundw
          case rel =>
            refine ⟨4 + 1, by omega, by go_num, Lib.hid (by have := HK.out; unfold MayK at this ⊢; simp at this h1 h2 ⊢; omega), Lib.hid ?_⟩
            repeat (with_reducible refine Below.setCell ?_ (by have := HB.out.size; simp; omega) _)
            exact HB.out.alloc HB.out.size _
          case measure => simp [intOf]
    · have ik : ∀ u : World, (Instr.index 48 (.agg #[.int .i64 n, .int .i64 1, .int .i64 a1, .int .i64 86, .int .i64 a2, .int .i64 86, .int .i64 a3, .int .i64 32, .int .i64 a4, .int .i64 192, .int .i64 a5, .int .i64 192]) (.int .i64 5)).run Try.prog u = .ok (.agg #[.int .i64 a5, .int .i64 192]) u := fun _ => by kernel_rfl
      by_cases h1 : a5 < 192
      · go_wp2_with fail
        go_ret
        have e : mayT ⟨a1, a2, a3, a4, a5⟩ n = false := by unfold mayT; simp; omega
        rw [e]
        refine ⟨rfl, ?_⟩
        repeat (with_reducible refine Below.setCell ?_ (by have := HB.out.size; simp; omega) _)
        exact HB.out.alloc HB.out.size _
      · by_cases h2 : 65535 < a5
        · go_wp2_with fail
          go_ret
          have e : mayT ⟨a1, a2, a3, a4, a5⟩ n = false := by unfold mayT; simp; omega
          rw [e]
          refine ⟨rfl, ?_⟩
          repeat (with_reducible refine Below.setCell ?_ (by have := HB.out.size; simp; omega) _)
          exact HB.out.alloc HB.out.size _
        · go_wp2_with fail
          go_roundw
          case rel =>
            refine ⟨5 + 1, by omega, by go_num, Lib.hid (by have := HK.out; unfold MayK at this ⊢; simp at this h1 h2 ⊢; omega), Lib.hid ?_⟩
            repeat (with_reducible refine Below.setCell ?_ (by have := HB.out.size; simp; omega) _)
            exact HB.out.alloc HB.out.size _
          case measure => simp [intOf]
    · go_wp2_with fail
      go_ret
      have e : mayT ⟨a1, a2, a3, a4, a5⟩ n = decide (n < 65535) := by
        have := HK.out
        unfold MayK at this
        unfold mayT
        simp at this ⊢
        by_cases h9 : n < 65535
        · simp [h9]; omega
        · simp [h9]; omega
      rw [e]
      exact ⟨rfl, HB.out⟩
end Go.Proofs.Ytnkjmmbhjhmgdaa
