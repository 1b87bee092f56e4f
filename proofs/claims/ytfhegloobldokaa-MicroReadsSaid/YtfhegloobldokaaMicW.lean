/- op.Memory, micro.Bytes; the law MicroReads: its own body. -/
import Derived.Test.YtfhegloobldokaaMicP
import Derived.Test.YtfhegloobldokaaMicS
import Derived.Test.YtfhegloobldokaaMicK
namespace Go.Proofs.Ytfhegloobldokaa
set_option linter.unusedSimpArgs false
set_option linter.unusedVariables false
open Go.RowKit
set_option maxHeartbeats 4000000 in
theorem mem_any (c : Int) (w : World) (h0 : 0 ≤ c) (h1 : c ≤ 255) : Calls Try.prog 63 #[.int .u8 c] w fun e w' => e = .returned (.bool (Mi.memS c)) ∧ w = w' := by
  obtain ⟨R, hR⟩ : ∃ R, R = Mi.memS c := ⟨_, rfl⟩
  rw [← hR]
  unfold Mi.memS at hR
  have H := op_parts c h0 h1
  obtain ⟨X, hX⟩ : ∃ X, X = c / 64 := ⟨_, rfl⟩
  obtain ⟨Y, hY⟩ : ∃ Y, Y = c / 8 % 8 := ⟨_, rfl⟩
  obtain ⟨Z, hZ⟩ : ∃ Z, Z = c % 8 := ⟨_, rfl⟩
  have bX : X = 0 ∨ X = 1 ∨ X = 2 ∨ X = 3 := by omega
  have bZ : Z = 0 ∨ Z = 1 ∨ Z = 2 ∨ Z = 3 ∨ Z = 4 ∨ Z = 5 ∨ Z = 6 ∨ Z = 7 := by omega
  rw [← hX, ← hY, ← hZ] at H
  rw [← hX, ← hY, ← hZ] at hR
  have kc : c = 118 ∧ X = 1 ∧ Y = 6 ∧ Z = 6 ∨ c ≠ 118 := by omega
  have H := Lib.hid H
  clear hX hY hZ
  have kY : Y = 6 ∨ Y ≠ 6 := by omega
  rcases kc with ⟨rfl, rfl, rfl, rfl⟩ | kc
  · simp at hR
    subst hR
    go_enter Try.func63, Try.ntmps63
    go_wp2_with (first
      | (go_at_call 96; refine (H.out.z _).mono ?_; rintro e w' ⟨rfl, rfl⟩)
      | (go_at_call 95; refine (H.out.y _).mono ?_; rintro e w' ⟨rfl, rfl⟩)
      | (go_at_call 92; refine (H.out.x _).mono ?_; rintro e w' ⟨rfl, rfl⟩))
    go_ret
    exact ⟨rfl, rfl⟩
  have kb : (c == 118) = false := by simp [kc]
  have kn : (c != 118) = true := by simp [kc]
  rcases kY with rfl | kY
  · rcases bX with rfl | rfl | rfl | rfl <;> rcases bZ with rfl | rfl | rfl | rfl | rfl | rfl | rfl | rfl
    all_goals
      simp [kc] at hR
      subst hR
      go_enter Try.func63, Try.ntmps63
      go_wp2_with (first
        | (go_at_call 96; refine (H.out.z _).mono ?_; rintro e w' ⟨rfl, rfl⟩)
        | (go_at_call 95; refine (H.out.y _).mono ?_; rintro e w' ⟨rfl, rfl⟩)
        | (go_at_call 92; refine (H.out.x _).mono ?_; rintro e w' ⟨rfl, rfl⟩))
      go_ret
      exact ⟨rfl, rfl⟩
  · have yb : (Y == 6) = false := by simp [kY]
    rcases bX with rfl | rfl | rfl | rfl <;> rcases bZ with rfl | rfl | rfl | rfl | rfl | rfl | rfl | rfl
    all_goals
      simp [kc, kY] at hR
      subst hR
      go_enter Try.func63, Try.ntmps63
      go_wp2_with (first
        | (go_at_call 96; refine (H.out.z _).mono ?_; rintro e w' ⟨rfl, rfl⟩)
        | (go_at_call 95; refine (H.out.y _).mono ?_; rintro e w' ⟨rfl, rfl⟩)
        | (go_at_call 92; refine (H.out.x _).mono ?_; rintro e w' ⟨rfl, rfl⟩))
      go_ret
      exact ⟨rfl, rfl⟩
namespace Mi
def bytesS (ix c : Int) : Int := if 0 < ix ∧ memS c = true then argsS c + 1 else argsS c
theorem args_ran : ∀ n < 256, 0 ≤ argsS (n : Nat) ∧ argsS (n : Nat) ≤ 2 := by decide +kernel
theorem args7_ran : ∀ n < 256, 0 ≤ args7 (n : Nat) ∧ args7 (n : Nat) ≤ 2 := by decide +kernel
end Mi
set_option maxHeartbeats 4000000 in
theorem bytes_any (ix c : Int) (w : World) (h0 : 0 ≤ c) (h1 : c ≤ 255) : Calls Try.prog 40 #[.int .i64 ix, .int .u8 c] w fun e w' => e = .returned (.int .i64 (Mi.bytesS ix c)) ∧ w = w' := by
  obtain ⟨R, hR⟩ : ∃ R, R = Mi.bytesS ix c := ⟨_, rfl⟩
  rw [← hR]
  unfold Mi.bytesS at hR
  have hA := fun w => args_any c w h0 h1
  have hM := fun w => mem_any c w h0 h1
  have hr : 0 ≤ Mi.argsS c ∧ Mi.argsS c ≤ 2 := by
    obtain ⟨n, rfl⟩ := Int.eq_ofNat_of_zero_le h0
    exact Mi.args_ran n (by omega)
  obtain ⟨a, ha⟩ : ∃ a, a = Mi.argsS c := ⟨_, rfl⟩
  obtain ⟨m, hm⟩ : ∃ m, m = Mi.memS c := ⟨_, rfl⟩
  simp only [← ha, ← hm] at hA hM hr hR
  obtain ⟨r0, r1⟩ := hr
  have HA := Lib.hid hA; have HM := Lib.hid hM
  clear hA hM ha hm
  by_cases k : 0 < ix <;> cases m
  all_goals
    simp [k] at hR
    subst hR
    go_enter Try.func40, Try.ntmps40
    go_wp2_with (first
      | (go_at_call 62; refine (HA.out _).mono ?_; rintro e w' ⟨rfl, rfl⟩)
      | (go_at_call 63; refine (HM.out _).mono ?_; rintro e w' ⟨rfl, rfl⟩))
    go_ret
    exact ⟨rfl, rfl⟩
namespace Mi
/-- how many bytes the document wants -/
def wantS (ix c : Int) : Int := args7 c + if 0 < ix ∧ mem7 c = true then 1 else 0
set_option maxRecDepth 100000 in
set_option maxHeartbeats 0 in
theorem reads_checked : ((List.range 3).all fun i => (List.range 256).all fun c => (fetchesS (programS 0 i c) == wantS i c) && (bytesS i c == wantS i c)) = true := by decide +kernel
theorem reads_all (i c : Int) (h0 : 0 ≤ c) (h1 : c ≤ 255) (i0 : 0 ≤ i) (i1 : i ≤ 2) : fetchesS (programS 0 i c) = wantS i c ∧ bytesS i c = wantS i c := by
  obtain ⟨n, rfl⟩ := Int.eq_ofNat_of_zero_le h0
  obtain ⟨k, rfl⟩ := Int.eq_ofNat_of_zero_le i0
  have h := reads_checked
  rw [List.all_eq_true] at h
  have h2 := h k (by simp; omega)
  rw [List.all_eq_true] at h2
  have h3 := h2 n (by simp; omega)
  simpa using h3
end Mi
end Go.Proofs.Ytfhegloobldokaa
