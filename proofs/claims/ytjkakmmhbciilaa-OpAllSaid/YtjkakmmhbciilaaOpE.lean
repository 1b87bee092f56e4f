/- squealref07: Memory, Args. -/
import Derived.Test.YtjkakmmhbciilaaOpD
import Derived.Test.YtjkakmmhbciilaaOpB
namespace Go.Proofs.Ytjkakmmhbciilaa
set_option linter.unusedSimpArgs false
set_option linter.unusedVariables false
open Go.RowKit
namespace Mi
def mem7 (c : Int) : Bool := hasS (plain7 c) [40, 104, 108, 41]
def args7 (c : Int) : Int := if hasS (plain7 c) [87] = true then (if c = 221 ∨ c = 237 ∨ c = 253 then 0 else 2) else if hasS (plain7 c) [78] = true ∨ hasS (plain7 c) [69] = true then 1 else 0
end Mi
set_option maxHeartbeats 2000000 in
theorem mem7_any (c : Int) (w : World) (h0 : 0 ≤ c) (h1 : c ≤ 255) : Calls Try.prog 17 #[.int .u8 c] w fun e w' => e = .returned (.bool (Mi.mem7 c)) ∧ Below w.heap.size w w' := by
  obtain ⟨M, hM⟩ : ∃ M, M = Mi.mem7 c := ⟨_, rfl⟩
  rw [← hM]
  unfold Mi.mem7 at hM
  have hl := Mi.plain7_le c h0 h1
  have hP := fun w => plain7_any c w h0 h1
  have hH := fun w => has_any (Mi.plain7 c) [40, 104, 108, 41] w (by omega) (by decide) (by decide)
  rw [← hM] at hH
  obtain ⟨t, ht⟩ : ∃ t, t = Mi.plain7 c := ⟨_, rfl⟩
  rw [← ht] at hH hl
  simp only [← ht] at hP
  have HP := Lib.hid hP; have HH := Lib.hid hH
  clear hP hH hM ht
  go_enter Try.func17, Try.ntmps17
  go_wp2_with (first
    | (go_at_call 28; refine (HP.out _).mono ?_; rintro e w' ⟨rfl, hb⟩)
    | (go_at_call 38; refine (HH.out _).mono ?_; rintro e w' ⟨rfl, rfl⟩))
  go_ret
  exact ⟨rfl, hb⟩
set_option maxHeartbeats 2000000 in
theorem args7_any (c : Int) (w : World) (h0 : 0 ≤ c) (h1 : c ≤ 255) : Calls Try.prog 15 #[.int .u8 c] w fun e w' => e = .returned (.int .i64 (Mi.args7 c)) ∧ Below w.heap.size w w' := by
  obtain ⟨R, hR⟩ : ∃ R, R = Mi.args7 c := ⟨_, rfl⟩
  rw [← hR]
  unfold Mi.args7 at hR
  have hl := Mi.plain7_le c h0 h1
  have hP := fun w => plain7_any c w h0 h1
  have hW := fun w => has_any (Mi.plain7 c) [87] w (by omega) (by decide) (by decide)
  have hN := fun w => has_any (Mi.plain7 c) [78] w (by omega) (by decide) (by decide)
  have hE := fun w => has_any (Mi.plain7 c) [69] w (by omega) (by decide) (by decide)
  obtain ⟨W, hw⟩ : ∃ W, W = Mi.hasS (Mi.plain7 c) [87] := ⟨_, rfl⟩
  obtain ⟨N, hn⟩ : ∃ N, N = Mi.hasS (Mi.plain7 c) [78] := ⟨_, rfl⟩
  obtain ⟨E, he⟩ : ∃ E, E = Mi.hasS (Mi.plain7 c) [69] := ⟨_, rfl⟩
  simp only [← hw, ← hn, ← he] at hW hN hE hR
  obtain ⟨t, ht⟩ : ∃ t, t = Mi.plain7 c := ⟨_, rfl⟩
  rw [← ht] at hl
  simp only [← ht] at hP hW hN hE
  have HP := Lib.hid hP; have HW := Lib.hid hW; have HN := Lib.hid hN; have HE := Lib.hid hE
  clear hP hW hN hE hw hn he ht
  cases W with
  | true =>
    simp only [if_true] at hR
    by_cases k1 : c = 221
    · subst k1
      simp at hR; subst hR
      go_enter Try.func15, Try.ntmps15
      go_wp2_with (first
        | (go_at_call 28; refine (HP.out _).mono ?_; rintro e w' ⟨rfl, hb⟩)
        | (go_at_call 38; refine (HW.out _).mono ?_; rintro e w' ⟨rfl, rfl⟩))
      go_ret
      exact ⟨rfl, hb⟩
    by_cases k2 : c = 237
    · subst k2
      simp at hR; subst hR
      go_enter Try.func15, Try.ntmps15
      go_wp2_with (first
        | (go_at_call 28; refine (HP.out _).mono ?_; rintro e w' ⟨rfl, hb⟩)
        | (go_at_call 38; refine (HW.out _).mono ?_; rintro e w' ⟨rfl, rfl⟩))
      go_ret
      exact ⟨rfl, hb⟩
    by_cases k3 : c = 253
    · subst k3
      simp at hR; subst hR
      go_enter Try.func15, Try.ntmps15
      go_wp2_with (first
        | (go_at_call 28; refine (HP.out _).mono ?_; rintro e w' ⟨rfl, hb⟩)
        | (go_at_call 38; refine (HW.out _).mono ?_; rintro e w' ⟨rfl, rfl⟩))
      go_ret
      exact ⟨rfl, hb⟩
    rw [if_neg (by omega)] at hR; subst hR
    have b1 : (c == 221) = false := by simp [k1]
    have b2 : (c == 237) = false := by simp [k2]
    have b3 : (c == 253) = false := by simp [k3]
    go_enter Try.func15, Try.ntmps15
    go_wp2_with (first
      | (go_at_call 28; refine (HP.out _).mono ?_; rintro e w' ⟨rfl, hb⟩)
      | (go_at_call 38; refine (HW.out _).mono ?_; rintro e w' ⟨rfl, rfl⟩))
    go_ret
    exact ⟨rfl, hb⟩
  | false =>
    cases N <;> cases E
    all_goals
      simp at hR
      subst hR
      go_enter Try.func15, Try.ntmps15
      go_wp2_with (first
        | (go_at_call 28; refine (HP.out _).mono ?_; rintro e w' ⟨rfl, hb⟩)
        | (go_at_call_of 38 (Value.string { data := #[87] }); refine (HW.out _).mono ?_; rintro e w' ⟨rfl, rfl⟩)
        | (go_at_call_of 38 (Value.string { data := #[78] }); refine (HN.out _).mono ?_; rintro e w' ⟨rfl, rfl⟩)
        | (go_at_call_of 38 (Value.string { data := #[69] }); refine (HE.out _).mono ?_; rintro e w' ⟨rfl, rfl⟩))
      go_ret
      exact ⟨rfl, hb⟩
namespace Mi
theorem args7_ran : ∀ n < 256, 0 ≤ args7 (n : Nat) ∧ args7 (n : Nat) ≤ 2 := by decide +kernel
set_option maxRecDepth 100000 in
theorem args_same : ((List.range 256).all fun c => (argsS c == args7 c) && (memS c == mem7 c)) = true := by decide +kernel
theorem args_eq (c : Int) (h0 : 0 ≤ c) (h1 : c ≤ 255) : argsS c = args7 c ∧ memS c = mem7 c := by
  obtain ⟨n, rfl⟩ := Int.eq_ofNat_of_zero_le h0
  have h := args_same
  rw [List.all_eq_true] at h
  have h3 := h n (by simp; omega)
  simpa using h3
end Mi
end Go.Proofs.Ytjkakmmhbciilaa
