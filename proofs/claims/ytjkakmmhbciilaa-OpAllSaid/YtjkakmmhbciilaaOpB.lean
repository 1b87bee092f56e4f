/- Package op: Args and Memory of a plain code. -/
import Derived.Test.YtjkakmmhbciilaaOpA
namespace Go.Proofs.Ytjkakmmhbciilaa
set_option linter.unusedSimpArgs false
set_option linter.unusedVariables false
open Go.RowKit
namespace Mi
def lowArgsS (c : Int) : Int := if c % 8 = 0 then (if 2 ≤ c / 8 % 8 then 1 else 0) else if c % 8 = 1 then 2 * (1 - c / 8 % 2) else if c % 8 = 2 then (if 2 ≤ c / 16 % 4 then 2 else 0) else if c % 8 = 6 then 1 else 0
def highArgsS (c : Int) : Int := if c % 8 = 2 then 2 else if c % 8 = 4 then 2 else if c % 8 = 6 then 1 else if c % 8 = 3 then (if c / 8 % 8 = 0 then 2 else if c / 8 % 8 = 2 then 1 else if c / 8 % 8 = 3 then 1 else 0) else if c % 8 = 5 then (if c = 205 then 2 else 0) else 0
def argsS (c : Int) : Int := if c / 64 = 0 then lowArgsS c else if c / 64 = 3 then highArgsS c else 0
def memS (c : Int) : Bool := if c / 64 = 0 then decide (c / 8 % 8 = 6 ∧ 4 ≤ c % 8 ∧ c % 8 ≤ 6) else if c / 64 = 1 then decide (c ≠ 118 ∧ (c / 8 % 8 = 6 ∨ c % 8 = 6)) else if c / 64 = 2 then decide (c % 8 = 6) else false
end Mi
set_option maxHeartbeats 400000 in
theorem opx_any (c : Int) (w : World) (h0 : 0 ≤ c) (h1 : c ≤ 255) : Calls Try.prog 25 #[.int .u8 c] w fun e w' => e = .returned (.int .i64 (c / 64)) ∧ w = w' := by
  go_enter Try.func25, Try.ntmps25
  go_wp2
  go_ret
  exact ⟨rfl, rfl⟩
set_option maxHeartbeats 400000 in
theorem opy_any (c : Int) (w : World) (h0 : 0 ≤ c) (h1 : c ≤ 255) : Calls Try.prog 39 #[.int .u8 c] w fun e w' => e = .returned (.int .i64 (c / 8 % 8)) ∧ w = w' := by
  have e := u8_and_7 (c / 8) (by omega) (by omega)
  go_enter Try.func39, Try.ntmps39
  go_wp2
  go_ret
  exact ⟨rfl, rfl⟩
set_option maxHeartbeats 400000 in
theorem opz_any (c : Int) (w : World) (h0 : 0 ≤ c) (h1 : c ≤ 255) : Calls Try.prog 22 #[.int .u8 c] w fun e w' => e = .returned (.int .i64 (c % 8)) ∧ w = w' := by
  have e := u8_and_7 c (by omega) (by omega)
  go_enter Try.func22, Try.ntmps22
  go_wp2
  go_ret
  exact ⟨rfl, rfl⟩
set_option maxHeartbeats 400000 in
theorem opp_any (c : Int) (w : World) (h0 : 0 ≤ c) (h1 : c ≤ 255) : Calls Try.prog 45 #[.int .u8 c] w fun e w' => e = .returned (.int .i64 (c / 16 % 4)) ∧ w = w' := by
  have e := u8_and_3 (c / 16) (by omega) (by omega)
  go_enter Try.func45, Try.ntmps45
  go_wp2
  go_ret
  exact ⟨rfl, rfl⟩
set_option maxHeartbeats 400000 in
theorem opq_any (c : Int) (w : World) (h0 : 0 ≤ c) (h1 : c ≤ 255) : Calls Try.prog 43 #[.int .u8 c] w fun e w' => e = .returned (.int .i64 (c / 8 % 2)) ∧ w = w' := by
  have e := u8_and_1 (c / 8) (by omega) (by omega)
  go_enter Try.func43, Try.ntmps43
  go_wp2
  go_ret
  exact ⟨rfl, rfl⟩
theorem z_cases (c : Int) : c % 8 = 0 ∨ c % 8 = 1 ∨ c % 8 = 2 ∨ c % 8 = 3 ∨ c % 8 = 4 ∨ c % 8 = 5 ∨ c % 8 = 6 ∨ c % 8 = 7 := by omega
/-- the five parts of a code -/
structure OpParts (c x y z p q : Int) : Prop where
  x : ∀ w, Calls Try.prog 25 #[.int .u8 c] w fun e w' => e = .returned (.int .i64 x) ∧ w = w'
  y : ∀ w, Calls Try.prog 39 #[.int .u8 c] w fun e w' => e = .returned (.int .i64 y) ∧ w = w'
  z : ∀ w, Calls Try.prog 22 #[.int .u8 c] w fun e w' => e = .returned (.int .i64 z) ∧ w = w'
  p : ∀ w, Calls Try.prog 45 #[.int .u8 c] w fun e w' => e = .returned (.int .i64 p) ∧ w = w'
  q : ∀ w, Calls Try.prog 43 #[.int .u8 c] w fun e w' => e = .returned (.int .i64 q) ∧ w = w'
theorem op_parts (c : Int) (h0 : 0 ≤ c) (h1 : c ≤ 255) : OpParts c (c / 64) (c / 8 % 8) (c % 8) (c / 16 % 4) (c / 8 % 2) :=
  ⟨fun w => opx_any c w h0 h1, fun w => opy_any c w h0 h1, fun w => opz_any c w h0 h1, fun w => opp_any c w h0 h1, fun w => opq_any c w h0 h1⟩
set_option maxHeartbeats 4000000 in
theorem lowArgs_any (c : Int) (w : World) (h0 : 0 ≤ c) (h1 : c ≤ 255) : Calls Try.prog 36 #[.int .u8 c] w fun e w' => e = .returned (.int .i64 (Mi.lowArgsS c)) ∧ w = w' := by
  obtain ⟨R, hR⟩ : ∃ R, R = Mi.lowArgsS c := ⟨_, rfl⟩
  rw [← hR]
  unfold Mi.lowArgsS at hR
  have H := op_parts c h0 h1
  obtain ⟨X, hX⟩ : ∃ X, X = c / 64 := ⟨_, rfl⟩
  obtain ⟨Y, hY⟩ : ∃ Y, Y = c / 8 % 8 := ⟨_, rfl⟩
  obtain ⟨Z, hZ⟩ : ∃ Z, Z = c % 8 := ⟨_, rfl⟩
  obtain ⟨P, hP⟩ : ∃ P, P = c / 16 % 4 := ⟨_, rfl⟩
  obtain ⟨Q, hQ⟩ : ∃ Q, Q = c / 8 % 2 := ⟨_, rfl⟩
  have bX : X = 0 ∨ X = 1 ∨ X = 2 ∨ X = 3 := by omega
  have bZ : Z = 0 ∨ Z = 1 ∨ Z = 2 ∨ Z = 3 ∨ Z = 4 ∨ Z = 5 ∨ Z = 6 ∨ Z = 7 := by omega
  have bY : 0 ≤ Y ∧ Y ≤ 7 := by omega
  have bP : 0 ≤ P ∧ P ≤ 3 := by omega
  have bQ : Q = 0 ∨ Q = 1 := by omega
  rw [← hX, ← hY, ← hZ, ← hP, ← hQ] at H
  try rw [← hX] at hR
  try rw [← hY] at hR
  try rw [← hZ] at hR
  try rw [← hP] at hR
  try rw [← hQ] at hR
  obtain ⟨y0, y1⟩ := bY
  obtain ⟨p0, p1⟩ := bP
  have H := Lib.hid H
  clear hX hY hZ hP hQ
  rcases bZ with rfl | rfl | rfl | rfl | rfl | rfl | rfl | rfl
  all_goals
    by_cases hy : 2 ≤ Y
    all_goals
      by_cases hp : 2 ≤ P
      all_goals
        rcases bQ with rfl | rfl
        all_goals
          simp [hy, hp] at hR
          subst hR
          go_enter Try.func36, Try.ntmps36
          go_wp2_with (first
            | (go_at_call 22; refine (H.out.z _).mono ?_; rintro e w' ⟨rfl, rfl⟩)
            | (go_at_call 39; refine (H.out.y _).mono ?_; rintro e w' ⟨rfl, rfl⟩)
            | (go_at_call 25; refine (H.out.x _).mono ?_; rintro e w' ⟨rfl, rfl⟩)
            | (go_at_call 45; refine (H.out.p _).mono ?_; rintro e w' ⟨rfl, rfl⟩)
            | (go_at_call 43; refine (H.out.q _).mono ?_; rintro e w' ⟨rfl, rfl⟩))
          go_ret
          exact ⟨rfl, rfl⟩
set_option maxHeartbeats 4000000 in
theorem highArgs_any (c : Int) (w : World) (h0 : 0 ≤ c) (h1 : c ≤ 255) : Calls Try.prog 37 #[.int .u8 c] w fun e w' => e = .returned (.int .i64 (Mi.highArgsS c)) ∧ w = w' := by
  by_cases hc : c = 205
  · subst hc
    have H : OpParts 205 3 1 5 0 1 := op_parts 205 (by omega) (by omega)
    have H := Lib.hid H
    go_enter Try.func37, Try.ntmps37
    go_wp2_with (first
      | (go_at_call 22; refine (H.out.z _).mono ?_; rintro e w' ⟨rfl, rfl⟩))
    go_ret
    exact ⟨rfl, rfl⟩
  have hcb : (c == 205) = false := by simp [hc]
  obtain ⟨R, hR⟩ : ∃ R, R = Mi.highArgsS c := ⟨_, rfl⟩
  rw [← hR]
  unfold Mi.highArgsS at hR
  have H := op_parts c h0 h1
  obtain ⟨X, hX⟩ : ∃ X, X = c / 64 := ⟨_, rfl⟩
  obtain ⟨Y, hY⟩ : ∃ Y, Y = c / 8 % 8 := ⟨_, rfl⟩
  obtain ⟨Z, hZ⟩ : ∃ Z, Z = c % 8 := ⟨_, rfl⟩
  obtain ⟨P, hP⟩ : ∃ P, P = c / 16 % 4 := ⟨_, rfl⟩
  obtain ⟨Q, hQ⟩ : ∃ Q, Q = c / 8 % 2 := ⟨_, rfl⟩
  have bX : X = 0 ∨ X = 1 ∨ X = 2 ∨ X = 3 := by omega
  have bZ : Z = 0 ∨ Z = 1 ∨ Z = 2 ∨ Z = 3 ∨ Z = 4 ∨ Z = 5 ∨ Z = 6 ∨ Z = 7 := by omega
  have bY : 0 ≤ Y ∧ Y ≤ 7 := by omega
  have bP : 0 ≤ P ∧ P ≤ 3 := by omega
  have bQ : Q = 0 ∨ Q = 1 := by omega
  rw [← hX, ← hY, ← hZ, ← hP, ← hQ] at H
  try rw [← hX] at hR
  try rw [← hY] at hR
  try rw [← hZ] at hR
  try rw [← hP] at hR
  try rw [← hQ] at hR
  obtain ⟨y0, y1⟩ := bY
  obtain ⟨p0, p1⟩ := bP
  have H := Lib.hid H
  clear hX hY hZ hP hQ
  have kY : Y = 0 ∨ Y = 2 ∨ Y = 3 ∨ ((Y == 0) = false ∧ (Y == 2) = false ∧ (Y == 3) = false) := by
    simp; omega
  rcases bZ with rfl | rfl | rfl | rfl | rfl | rfl | rfl | rfl
  all_goals
    rcases kY with rfl | rfl | rfl | ⟨e1, e2, e3⟩
    all_goals
      first | (have f1 : Y ≠ 0 := by simpa using e1); (have f2 : Y ≠ 2 := by simpa using e2); (have f3 : Y ≠ 3 := by simpa using e3); simp [hc, f1, f2, f3] at hR; clear f1 f2 f3 | simp [hc] at hR
      subst hR
      go_enter Try.func37, Try.ntmps37
      go_wp2_with (first
        | (go_at_call 22; refine (H.out.z _).mono ?_; rintro e w' ⟨rfl, rfl⟩)
        | (go_at_call 39; refine (H.out.y _).mono ?_; rintro e w' ⟨rfl, rfl⟩)
        | (go_at_call 25; refine (H.out.x _).mono ?_; rintro e w' ⟨rfl, rfl⟩)
        | (go_at_call 45; refine (H.out.p _).mono ?_; rintro e w' ⟨rfl, rfl⟩)
        | (go_at_call 43; refine (H.out.q _).mono ?_; rintro e w' ⟨rfl, rfl⟩))
      go_ret
      exact ⟨rfl, rfl⟩
set_option maxHeartbeats 4000000 in
theorem args_any (c : Int) (w : World) (h0 : 0 ≤ c) (h1 : c ≤ 255) : Calls Try.prog 14 #[.int .u8 c] w fun e w' => e = .returned (.int .i64 (Mi.argsS c)) ∧ w = w' := by
  obtain ⟨R, hR⟩ : ∃ R, R = Mi.argsS c := ⟨_, rfl⟩
  rw [← hR]
  unfold Mi.argsS at hR
  have H := op_parts c h0 h1
  obtain ⟨X, hX⟩ : ∃ X, X = c / 64 := ⟨_, rfl⟩
  obtain ⟨Y, hY⟩ : ∃ Y, Y = c / 8 % 8 := ⟨_, rfl⟩
  obtain ⟨Z, hZ⟩ : ∃ Z, Z = c % 8 := ⟨_, rfl⟩
  obtain ⟨P, hP⟩ : ∃ P, P = c / 16 % 4 := ⟨_, rfl⟩
  obtain ⟨Q, hQ⟩ : ∃ Q, Q = c / 8 % 2 := ⟨_, rfl⟩
  have bX : X = 0 ∨ X = 1 ∨ X = 2 ∨ X = 3 := by omega
  have bZ : Z = 0 ∨ Z = 1 ∨ Z = 2 ∨ Z = 3 ∨ Z = 4 ∨ Z = 5 ∨ Z = 6 ∨ Z = 7 := by omega
  have bY : 0 ≤ Y ∧ Y ≤ 7 := by omega
  have bP : 0 ≤ P ∧ P ≤ 3 := by omega
  have bQ : Q = 0 ∨ Q = 1 := by omega
  rw [← hX, ← hY, ← hZ, ← hP, ← hQ] at H
  try rw [← hX] at hR
  try rw [← hY] at hR
  try rw [← hZ] at hR
  try rw [← hP] at hR
  try rw [← hQ] at hR
  obtain ⟨y0, y1⟩ := bY
  obtain ⟨p0, p1⟩ := bP
  have H := Lib.hid H
  clear hX hY hZ hP hQ
  have HL := Lib.hid (fun w => lowArgs_any c w h0 h1)
  have HH := Lib.hid (fun w => highArgs_any c w h0 h1)
  obtain ⟨A, hA⟩ : ∃ A, A = Mi.lowArgsS c := ⟨_, rfl⟩
  obtain ⟨B, hB⟩ : ∃ B, B = Mi.highArgsS c := ⟨_, rfl⟩
  rw [← hA, ← hB] at hR
  simp only [← hA] at HL
  simp only [← hB] at HH
  clear hA hB
  rcases bX with rfl | rfl | rfl | rfl
  all_goals
    simp at hR
    subst hR
    go_enter Try.func14, Try.ntmps14
    go_wp2_with (first
      | (go_at_call 25; refine (H.out.x _).mono ?_; rintro e w' ⟨rfl, rfl⟩)
      | (go_at_call 36; refine (HL.out _).mono ?_; rintro e w' ⟨rfl, rfl⟩)
      | (go_at_call 37; refine (HH.out _).mono ?_; rintro e w' ⟨rfl, rfl⟩))
    go_ret
    exact ⟨rfl, rfl⟩
set_option maxHeartbeats 4000000 in
theorem mem_any (c : Int) (w : World) (h0 : 0 ≤ c) (h1 : c ≤ 255) : Calls Try.prog 16 #[.int .u8 c] w fun e w' => e = .returned (.bool (Mi.memS c)) ∧ w = w' := by
  obtain ⟨R, hR⟩ : ∃ R, R = Mi.memS c := ⟨_, rfl⟩
  rw [← hR]
  unfold Mi.memS at hR
  have H := op_parts c h0 h1
  obtain ⟨X, hX⟩ : ∃ X, X = c / 64 := ⟨_, rfl⟩
  obtain ⟨Y, hY⟩ : ∃ Y, Y = c / 8 % 8 := ⟨_, rfl⟩
  obtain ⟨Z, hZ⟩ : ∃ Z, Z = c % 8 := ⟨_, rfl⟩
  have bX : X = 0 ∨ X = 1 ∨ X = 2 ∨ X = 3 := by omega
  have bZ : Z = 0 ∨ Z = 1 ∨ Z = 2 ∨ Z = 3 ∨ Z = 4 ∨ Z = 5 ∨ Z = 6 ∨ Z = 7 := by omega
  rw [← hX, ← hY, ← hZ] at H
  rw [← hX, ← hY, ← hZ] at hR
  have kc : c = 118 ∧ X = 1 ∧ Y = 6 ∧ Z = 6 ∨ c ≠ 118 := by omega
  have H := Lib.hid H
  clear hX hY hZ
  have kY : Y = 6 ∨ Y ≠ 6 := by omega
  rcases kc with ⟨rfl, rfl, rfl, rfl⟩ | kc
  · simp at hR
    subst hR
    go_enter Try.func16, Try.ntmps16
    go_wp2_with (first
      | (go_at_call 22; refine (H.out.z _).mono ?_; rintro e w' ⟨rfl, rfl⟩)
      | (go_at_call 39; refine (H.out.y _).mono ?_; rintro e w' ⟨rfl, rfl⟩)
      | (go_at_call 25; refine (H.out.x _).mono ?_; rintro e w' ⟨rfl, rfl⟩))
    go_ret
    exact ⟨rfl, rfl⟩
  have kb : (c == 118) = false := by simp [kc]
  have kn : (c != 118) = true := by simp [kc]
  rcases kY with rfl | kY
  · rcases bX with rfl | rfl | rfl | rfl <;> rcases bZ with rfl | rfl | rfl | rfl | rfl | rfl | rfl | rfl
    all_goals
      simp [kc] at hR
      subst hR
      go_enter Try.func16, Try.ntmps16
      go_wp2_with (first
        | (go_at_call 22; refine (H.out.z _).mono ?_; rintro e w' ⟨rfl, rfl⟩)
        | (go_at_call 39; refine (H.out.y _).mono ?_; rintro e w' ⟨rfl, rfl⟩)
        | (go_at_call 25; refine (H.out.x _).mono ?_; rintro e w' ⟨rfl, rfl⟩))
      go_ret
      exact ⟨rfl, rfl⟩
  · have yb : (Y == 6) = false := by simp [kY]
    rcases bX with rfl | rfl | rfl | rfl <;> rcases bZ with rfl | rfl | rfl | rfl | rfl | rfl | rfl | rfl
    all_goals
      simp [kc, kY] at hR
      subst hR
      go_enter Try.func16, Try.ntmps16
      go_wp2_with (first
        | (go_at_call 22; refine (H.out.z _).mono ?_; rintro e w' ⟨rfl, rfl⟩)
        | (go_at_call 39; refine (H.out.y _).mono ?_; rintro e w' ⟨rfl, rfl⟩)
        | (go_at_call 25; refine (H.out.x _).mono ?_; rintro e w' ⟨rfl, rfl⟩))
      go_ret
      exact ⟨rfl, rfl⟩
namespace Mi
theorem args_ran : ∀ n < 256, 0 ≤ argsS (n : Nat) ∧ argsS (n : Nat) ≤ 2 := by decide +kernel
end Mi
end Go.Proofs.Ytjkakmmhbciilaa
