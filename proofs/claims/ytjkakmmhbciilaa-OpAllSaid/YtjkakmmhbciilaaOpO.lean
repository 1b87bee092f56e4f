/- op: index, has, hl, pair, whole, away; wide.Plus, target. -/
import Derived.Test.YtjkakmmhbciilaaOpN
import Derived.Test.YtjkakmmhbciilaaOpD
namespace Go.Proofs.Ytjkakmmhbciilaa
set_option linter.unusedSimpArgs false
set_option linter.unusedVariables false
open Go.RowKit
def ixn (ix : Int) : List UInt8 := if ix = 1 then [105, 120] else [105, 121]
theorem ixn_len (ix : Int) : (ixn ix).length = 2 := by unfold ixn; split <;> rfl
set_option maxHeartbeats 400000 in
theorem opIndex_any (ix : Int) (w : World) : Calls Try.prog 26 #[.int .i64 ix] w fun e w' => e = .returned (.string ⟨(ixn ix).toArray⟩) ∧ w = w' := by
  unfold ixn
  by_cases k : ix = 1
  · subst k
    go_enter Try.func26, Try.ntmps26
    go_wp2_with fail
    go_ret
    exact ⟨rfl, rfl⟩
  · have kb : (ix == 1) = false := by simp [k]
    rw [if_neg k]
    go_enter Try.func26, Try.ntmps26
    go_wp2_with fail
    go_ret
    exact ⟨rfl, rfl⟩
def hasI (s ix : Int) : Bool := decide (s = 0 ∧ (ix = 1 ∨ ix = 2))
set_option maxHeartbeats 1000000 in
theorem opHas_any (s ix c d n ln : Int) (w : World) : Calls Try.prog 42 #[.agg #[.int .i64 s, .int .i64 ix, .int .u8 c, .int .u8 d, .int .u16 n, .int .i64 ln]] w fun e w' => e = .returned (.bool (hasI s ix)) ∧ Below w.heap.size w w' := by
  obtain ⟨R, hR⟩ : ∃ R, R = hasI s ix := ⟨_, rfl⟩
  rw [← hR]
  unfold hasI at hR
  by_cases k : s = 0
  · subst k
    by_cases k1 : ix = 1
    · subst k1
      simp at hR; subst hR
      go_enter Try.func42, Try.ntmps42
      go_wp2_with fail
      go_ret
      exact ⟨rfl, (Below.refl _ _).alloc (Nat.le_refl _) _⟩
    by_cases k2 : ix = 2
    · subst k2
      simp at hR; subst hR
      go_enter Try.func42, Try.ntmps42
      go_wp2_with fail
      go_ret
      exact ⟨rfl, (Below.refl _ _).alloc (Nat.le_refl _) _⟩
    have b1 : (ix == 1) = false := by simp [k1]
    have b2 : (ix == 2) = false := by simp [k2]
    simp [k1, k2] at hR; subst hR
    clear k1 k2
    go_enter Try.func42, Try.ntmps42
    go_wp2_with fail
    go_ret
    exact ⟨rfl, (Below.refl _ _).alloc (Nat.le_refl _) _⟩
  · have kb : (s == 0) = false := by simp [k]
    simp [k] at hR; subst hR
    clear k
    go_enter Try.func42, Try.ntmps42
    go_wp2_with fail
    go_ret
    exact ⟨rfl, (Below.refl _ _).alloc (Nat.le_refl _) _⟩
def hlS (s ix : Int) : List UInt8 := if hasI s ix = true then ixn ix else [104, 108]
set_option maxHeartbeats 1000000 in
theorem opHl_any (s ix c d n ln : Int) (w : World) : Calls Try.prog 59 #[.agg #[.int .i64 s, .int .i64 ix, .int .u8 c, .int .u8 d, .int .u16 n, .int .i64 ln]] w fun e w' => e = .returned (.string ⟨(hlS s ix).toArray⟩) ∧ Below w.heap.size w w' := by
  unfold hlS
  have HH := Lib.hid (fun w => opHas_any s ix c d n ln w)
  have HI := Lib.hid (fun w => opIndex_any ix w)
  obtain ⟨t, ht⟩ : ∃ t, t = ixn ix := ⟨_, rfl⟩
  rw [← ht] at HI ⊢
  cases hb : hasI s ix with
  | true =>
    rw [hb] at HH
    clear hb ht
    go_enter Try.func59, Try.ntmps59
    go_wp2_with (first
      | (go_at_call 42; refine (HH.out _).mono ?_; rintro e w1 ⟨rfl, hb⟩; obtain ⟨hc, hf⟩ := bcell hb)
      | (go_at_call 26; refine (HI.out _).mono ?_; rintro e w' ⟨rfl, rfl⟩))
    go_ret
    exact ⟨rfl, ((Below.refl _ w).alloc (Nat.le_refl _) _).trans (hb.mono (by simp))⟩
  | false =>
    rw [hb] at HH
    clear hb ht
    go_enter Try.func59, Try.ntmps59
    go_wp2_with (first
      | (go_at_call 42; refine (HH.out _).mono ?_; rintro e w1 ⟨rfl, hb⟩; obtain ⟨hc, hf⟩ := bcell hb))
    go_ret
    exact ⟨rfl, ((Below.refl _ w).alloc (Nat.le_refl _) _).trans (hb.mono (by simp))⟩
/-- a digit -/
def dg (x : Int) : UInt8 := UInt8.ofNat (48 + x).toNat
def wholeS (n : Int) : List UInt8 := if n < 10 then [dg n] else if n < 100 then [dg (n / 10), dg (n % 10)] else [dg (n / 100), dg (n / 10 % 10), dg (n % 10)]
theorem wholeS_len (n : Int) : (wholeS n).length ≤ 3 := by unfold wholeS; split; simp; split <;> simp
theorem dg_at : ∀ k : Nat, k < 10 → (⟨#[48, 49, 50, 51, 52, 53, 54, 55, 56, 57, 97, 98, 99, 100, 101, 102]⟩ : ByteArray).extract k (k + 1) = ⟨#[dg (k : Nat)]⟩ := by decide +kernel
theorem dg_of (x : Int) (h0 : 0 ≤ x) (h1 : x < 10) : (⟨#[48, 49, 50, 51, 52, 53, 54, 55, 56, 57, 97, 98, 99, 100, 101, 102]⟩ : ByteArray).extract x.toNat (x + 1).toNat = ⟨#[dg x]⟩ := by
  obtain ⟨n, rfl⟩ := Int.eq_ofNat_of_zero_le h0
  have h := dg_at n (by omega)
  have e : ((n : Int) + 1).toNat = n + 1 := by omega
  rw [e, Int.toNat_natCast]
  exact h
set_option maxHeartbeats 2000000 in
theorem whole_any (n : Int) (w : World) (h0 : 0 ≤ n) (h1 : n < 1000) : Calls Try.prog 47 #[.int .i64 n] w fun e w' => e = .returned (.string ⟨(wholeS n).toArray⟩) ∧ w = w' := by
  have d0 := Lib.hid (dg_of (n % 10) (by omega) (by omega))
  have d1 := Lib.hid (dg_of (n / 10 % 10) (by omega) (by omega))
  have d2 := Lib.hid (dg_of (n / 10 / 10 % 10) (by omega) (by omega))
  go_enter Try.func47, Try.ntmps47
  go_wp2_with fail
  go_loopw [0, 3] (fun u s wr => wr = w ∧ (u = .int .i64 n ∧ s = .string ⟨#[]⟩ ∨ u = .int .i64 (n / 10) ∧ s = .string ⟨#[dg (n % 10)]⟩ ∧ 10 ≤ n ∨ u = .int .i64 (n / 10 / 10) ∧ s = .string ⟨#[dg (n / 10 % 10), dg (n % 10)]⟩ ∧ 100 ≤ n)) (fun u s _ => (intOf u).toNat)
  case atStart => exact ⟨rfl, .inl ⟨rfl, rfl⟩⟩
  case round =>
    obtain ⟨rfl, h⟩ := hrel
    rcases h with ⟨rfl, rfl⟩ | ⟨rfl, rfl, g1⟩ | ⟨rfl, rfl, g1⟩
    · have d0 := d0.out
      by_cases k : n < 10
      · have z : n / 10 = 0 := by omega
        have m : n % 10 = n := by omega
        have HW : Hid (wholeS n = [dg (n % 10)]) := by show _ = _; unfold wholeS; rw [if_pos k, m]
        have zb : (n / 10 == 0) = true := by simp [z]
        clear z m
        go_wp2_with fail
        go_ret
        exact ⟨by rw [HW.out]; rfl, rfl⟩
      · have zb : (n / 10 == 0) = false := by simp; omega
        go_wp2_with fail
        go_roundw
        case rel => exact ⟨trivial, .inr (.inl ⟨rfl, rfl, by omega⟩)⟩
        case measure => simp [intOf]; omega
    · have d0 := d1.out
      by_cases k : n < 100
      · have zb : (n / 10 / 10 == 0) = true := by simp; omega
        have HW : Hid (wholeS n = [dg (n / 10 % 10), dg (n % 10)]) := by
          show _ = _
          unfold wholeS
          have m : n / 10 % 10 = n / 10 := by omega
          rw [if_neg (by omega), if_pos k, m]
        go_wp2_with fail
        go_ret
        exact ⟨by rw [HW.out]; rfl, rfl⟩
      · have zb : (n / 10 / 10 == 0) = false := by simp; omega
        go_wp2_with fail
        go_roundw
        case rel => exact ⟨trivial, .inr (.inr ⟨rfl, rfl, by omega⟩)⟩
        case measure => simp [intOf]; omega
    · have d0 := d2.out
      have zb : (n / 10 / 10 / 10 == 0) = true := by simp; omega
      have HW : Hid (wholeS n = [dg (n / 10 / 10 % 10), dg (n / 10 % 10), dg (n % 10)]) := by
        show _ = _
        unfold wholeS
        have m : n / 10 / 10 % 10 = n / 100 := by omega
        rw [if_neg (by omega), if_neg (by omega), m]
      go_wp2_with fail
      go_ret
      exact ⟨by rw [HW.out]; rfl, rfl⟩
end Go.Proofs.Ytjkakmmhbciilaa
