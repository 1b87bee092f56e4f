/- squealref08.Time. -/
import Derived.Test.YtfhegloobldokaaMicS
namespace Go.Proofs.Ytfhegloobldokaa
set_option linter.unusedSimpArgs false
set_option linter.unusedVariables false
open Go.RowKit
namespace Mi
def time8 (set : Int) (ix : Bool) (c : Int) (met : Bool) : Int :=
  if set = 0 then (plain8 c - 4 - if met = true then 0 else lessS c) + (if ix = true ∧ c = 54 then 5 else if ix = true ∧ mem7 c = true then 8 else 0)
  else if set = 1 ∨ set = 3 then (if set = 3 ∨ c % 8 = 6 then (if c / 64 = 1 then 4 else 7) else 0)
  else if set = 2 then (if met = false ∧ more8 c = 21 then 8 else more8 c - 8) else 0
theorem plain8_ran : ∀ n < 256, 4 ≤ plain8 (n : Nat) ∧ plain8 (n : Nat) ≤ 19 := by decide +kernel
theorem more8_ran : ∀ n < 256, 8 ≤ more8 (n : Nat) ∧ more8 (n : Nat) ≤ 21 := by decide +kernel
theorem less_ran : ∀ n < 256, 0 ≤ lessS (n : Nat) ∧ lessS (n : Nat) ≤ 7 := by decide +kernel
end Mi
theorem wrap_small (x : Int) (h0 : -1000 ≤ x) (h1 : x ≤ 1000000) : IntKind.i64.wrap x = x := by rw [IntKind.wrap_i64]; omega
set_option maxRecDepth 100000 in
set_option maxHeartbeats 4000000 in
theorem time8_any (set : Int) (ix : Bool) (c : Int) (met : Bool) (w : World) (h0 : 0 ≤ c) (h1 : c ≤ 255) :
    Calls Try.prog 34 #[.int .i64 set, .bool ix, .int .u8 c, .bool met] w fun e w' => e = .returned (.int .i64 (Mi.time8 set ix c met)) ∧ Below w.heap.size w w' := by
  obtain ⟨R, hR⟩ : ∃ R, R = Mi.time8 set ix c met := ⟨_, rfl⟩
  rw [← hR]
  unfold Mi.time8 at hR
  have hP := fun w => plain8_any c w h0 h1
  have hL := fun w => less_any c h0 h1 w
  have hM := fun w => mem7_any c w h0 h1
  have hO := fun w => more8_any c w h0 h1
  obtain ⟨n, rfl⟩ : ∃ n : Nat, c = n := ⟨c.toNat, by omega⟩
  obtain ⟨p0, p1⟩ := Mi.plain8_ran n (by omega)
  obtain ⟨o0, o1⟩ := Mi.more8_ran n (by omega)
  obtain ⟨l0, l1⟩ := Mi.less_ran n (by omega)
  obtain ⟨p, hp⟩ : ∃ p, p = Mi.plain8 n := ⟨_, rfl⟩
  obtain ⟨o, ho⟩ : ∃ o, o = Mi.more8 n := ⟨_, rfl⟩
  obtain ⟨l, hl⟩ : ∃ l, l = Mi.lessS n := ⟨_, rfl⟩
  obtain ⟨m, hm⟩ : ∃ m, m = Mi.mem7 n := ⟨_, rfl⟩
  simp only [← hp, ← ho, ← hl, ← hm] at p0 p1 o0 o1 l0 l1 hP hL hM hO hR
  have HP := Lib.hid hP; have HL := Lib.hid hL; have HM := Lib.hid hM; have HO := Lib.hid hO
  clear hP hL hM hO hp ho hl hm
  have u1 := wrap_small (p - 4) (by omega) (by omega)
  have u2 := wrap_small (p - 4 - l) (by omega) (by omega)
  have u3 := wrap_small (p - 4 + 5) (by omega) (by omega)
  have u4 := wrap_small (p - 4 + 8) (by omega) (by omega)
  have u5 := wrap_small (p - 4 - l + 5) (by omega) (by omega)
  have u6 := wrap_small (p - 4 - l + 8) (by omega) (by omega)
  have u7 := wrap_small (o - 8) (by omega) (by omega)
  by_cases s0 : set = 0
  · subst s0
    simp only [if_true] at hR
    by_cases c54 : n = 54
    · subst c54
      cases ix <;> cases met <;> cases m
      all_goals
        simp at hR
        subst hR
        go_enter Try.func34, Try.ntmps34
        go_wp2_with (first
          | (go_at_call 57; refine (HP.out _).mono ?_; rintro e w' ⟨rfl, hb⟩)
          | (go_at_call 58; refine (HL.out _).mono ?_; rintro e w' ⟨rfl, hb2⟩; replace hb := hb.trans (hb2.mono hb.size); clear hb2)
          | (go_at_call 38; refine (HM.out _).mono ?_; rintro e w' ⟨rfl, hb2⟩; replace hb := hb.trans (hb2.mono hb.size); clear hb2))
        go_ret
        exact ⟨rfl, hb⟩
    · have b54 : ((n : Int) == 54) = false := by simp; omega
      have c54' : ¬ ((n : Int) = 54) := by omega
      cases ix <;> cases met <;> cases m
      all_goals
        simp [c54'] at hR
        subst hR
        go_enter Try.func34, Try.ntmps34
        go_wp2_with (first
          | (go_at_call 57; refine (HP.out _).mono ?_; rintro e w' ⟨rfl, hb⟩)
          | (go_at_call 58; refine (HL.out _).mono ?_; rintro e w' ⟨rfl, hb2⟩; replace hb := hb.trans (hb2.mono hb.size); clear hb2)
          | (go_at_call 38; refine (HM.out _).mono ?_; rintro e w' ⟨rfl, hb2⟩; replace hb := hb.trans (hb2.mono hb.size); clear hb2))
        go_ret
        exact ⟨rfl, hb⟩
  have b0 : (set == 0) = false := by simp [s0]
  rw [if_neg s0] at hR
  have td : Int.tmod n 8 = n % 8 := Int.tmod_eq_emod_of_nonneg h0
  have tq : Int.tdiv n 64 = n / 64 := Int.tdiv_eq_ediv_of_nonneg h0
  have u8 := wrap_small ((n : Int) / 64) (by omega) (by omega)
  by_cases s1 : set = 1
  · subst s1
    rw [if_pos (.inl rfl)] at hR
    by_cases z : (n : Int) % 8 = 6
    all_goals
      have zb : ((n : Int) % 8 == 6) = decide ((n : Int) % 8 = 6) := rfl
      by_cases y : (n : Int) / 64 = 1
      all_goals
        have yb : ((n : Int) / 64 == 1) = decide ((n : Int) / 64 = 1) := rfl
        simp [z, y] at hR
        simp only [z, y, decide_true, decide_false] at zb yb
        subst hR
        go_enter Try.func34, Try.ntmps34
        go_wp2_with fail
        go_ret
        exact ⟨rfl, Below.refl _ _⟩
  have b1 : (set == 1) = false := by simp [s1]
  by_cases s3 : set = 3
  · subst s3
    rw [if_pos (.inr rfl)] at hR
    by_cases y : (n : Int) / 64 = 1
    all_goals
      have yb : ((n : Int) / 64 == 1) = decide ((n : Int) / 64 = 1) := rfl
      simp [y] at hR
      simp only [y, decide_true, decide_false] at yb
      subst hR
      go_enter Try.func34, Try.ntmps34
      go_wp2_with fail
      go_ret
      exact ⟨rfl, Below.refl _ _⟩
  have b3 : (set == 3) = false := by simp [s3]
  rw [if_neg (by omega)] at hR
  by_cases s2 : set = 2
  · subst s2
    rw [if_pos rfl] at hR
    by_cases y : o = 21
    · subst y
      cases met
      all_goals
        simp at hR
        subst hR
        go_enter Try.func34, Try.ntmps34
        go_wp2_with (first
          | (go_at_call 59; refine (HO.out _).mono ?_; rintro e w' ⟨rfl, hb⟩))
        go_ret
        exact ⟨rfl, hb⟩
    · have yb : (o - 8 == 13) = false := by simp; omega
      rw [if_neg (by simp [y])] at hR
      subst hR
      cases met
      all_goals
        go_enter Try.func34, Try.ntmps34
        go_wp2_with (first
          | (go_at_call 59; refine (HO.out _).mono ?_; rintro e w' ⟨rfl, hb⟩))
        go_ret
        exact ⟨rfl, hb⟩
  have b2 : (set == 2) = false := by simp [s2]
  rw [if_neg s2] at hR
  subst hR
  go_enter Try.func34, Try.ntmps34
  go_wp2_with fail
  go_ret
  exact ⟨rfl, Below.refl _ _⟩
end Go.Proofs.Ytfhegloobldokaa
