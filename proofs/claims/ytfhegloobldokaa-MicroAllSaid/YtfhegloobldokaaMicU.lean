/- The law MicroTimes: its own body. -/
import Derived.Test.YtfhegloobldokaaMicT
import Derived.Test.YtfhegloobldokaaMicK
namespace Go.Proofs.Ytfhegloobldokaa
set_option linter.unusedSimpArgs false
set_option linter.unusedVariables false
open Go.RowKit
namespace Mi
set_option maxRecDepth 100000 in
set_option maxHeartbeats 0 in
theorem times_checked : ((List.range 5).all fun s => (List.range 3).all fun i => (List.range 256).all fun c => (timeS true (programS s i c) == time8 s (decide (i ≠ 0)) c true) && (timeS false (programS s i c) == time8 s (decide (i ≠ 0)) c false)) = true := by decide +kernel
theorem times_all (set ix c : Int) (h0 : 0 ≤ c) (h1 : c ≤ 255) : timeS true (programS set ix c) = time8 set (decide (ix = 1 ∨ ix = 2)) c true ∧ timeS false (programS set ix c) = time8 set (decide (ix = 1 ∨ ix = 2)) c false := by
  obtain ⟨s, i, hs, hi, e, e0, e1, e2, e3, i1, i2⟩ := program_norm set ix c
  obtain ⟨n, rfl⟩ := Int.eq_ofNat_of_zero_le h0
  have h := all_programs (fun s i c l => (timeS true l == time8 s (decide (i ≠ 0)) c true) && (timeS false l == time8 s (decide (i ≠ 0)) c false)) times_checked s i n hs hi (by omega)
  simp only [Bool.and_eq_true, beq_iff_eq] at h
  have hd : decide (ix = 1 ∨ ix = 2) = decide (i ≠ 0) := decide_eq_decide.2 (by omega)
  have ht : ∀ b m, time8 set b n m = time8 s b n m := by
    intro b m
    have hk : set = s ∨ (s = 4 ∧ set ≠ 0 ∧ set ≠ 1 ∧ set ≠ 2 ∧ set ≠ 3) := by omega
    rcases hk with rfl | ⟨rfl, a0, a1, a2, a3⟩
    · rfl
    · unfold time8
      simp [a0, a1, a2, a3]
  rw [e, hd, ht, ht]
  exact h
end Mi
set_option maxRecDepth 100000 in
set_option maxHeartbeats 2000000 in
theorem microTimes_any (set ix c : Int) (w : World) (h0 : 0 ≤ c) (h1 : c ≤ 255) :
    Calls Try.prog 8 #[.int .i64 set, .int .i64 ix, .int .u8 c] w (True_ w) := by
  obtain ⟨L, hL⟩ : ∃ L, L = Mi.programS set ix c := ⟨_, rfl⟩
  obtain ⟨hlen, hsnd⟩ := Mi.good_all set ix c h0 h1
  obtain ⟨ht1, ht2⟩ := Mi.times_all set ix c h0 h1
  have hP := fun w => program_nil set ix c w h0 h1
  rw [← hL] at hlen hsnd ht1 ht2
  simp only [← hL] at hP
  have hsm := Mi.sound_small L hsnd
  have hT1 := fun v w h => time_any true v L w h hsm (by omega)
  have hT2 := fun v w h => time_any false v L w h hsm (by omega)
  rw [ht1] at hT1
  rw [ht2] at hT2
  have hU1 := fun w => time8_any set (decide (ix = 1 ∨ ix = 2)) c true w h0 h1
  have hU2 := fun w => time8_any set (decide (ix = 1 ∨ ix = 2)) c false w h0 h1
  obtain ⟨t1, e1⟩ : ∃ t, t = Mi.time8 set (decide (ix = 1 ∨ ix = 2)) c true := ⟨_, rfl⟩
  obtain ⟨t2, e2⟩ : ∃ t, t = Mi.time8 set (decide (ix = 1 ∨ ix = 2)) c false := ⟨_, rfl⟩
  simp only [← e1, ← e2] at hT1 hT2 hU1 hU2
  have kb : ∃ b, b = decide (ix = 1 ∨ ix = 2) ∧ ((ix == 1) = true ∧ b = true ∨ ((ix == 1) = false ∧ (ix == 2) = b)) := by
    refine ⟨_, rfl, ?_⟩
    by_cases k1 : ix = 1
    · simp [k1]
    · right; simp [k1]; rfl
  obtain ⟨b, hb, kb⟩ := kb
  rw [← hb] at hU1 hU2
  have HP := Lib.hid hP; have HT1 := Lib.hid hT1; have HT2 := Lib.hid hT2; have HU1 := Lib.hid hU1; have HU2 := Lib.hid hU2
  clear hP hT1 hT2 hU1 hU2 hL hsm hsnd ht1 ht2 e1 e2 hb
  rcases kb with ⟨kb, rfl⟩ | ⟨kb, kc⟩
  all_goals
    go_enter Try.func8, Try.ntmps8
    go_wp2_with (first
      | (go_at_call 32; refine (HP.out _).mono ?_; rintro e w1 ⟨v, rfl, hs, hB⟩; have HS := Lib.hid hs; have HB := Lib.hid hB; clear hs hB)
      | (go_at_call_of 33 (Value.bool true); refine (HT1.out _ _ HS.out).mono ?_; rintro e w2 ⟨rfl, hB2⟩; replace HS := Lib.hid (HS.out.below hB2); replace HB := Lib.hid (HB.out.trans (hB2.mono HB.out.size)); clear hB2)
      | (go_at_call_of 34 (Value.bool false); refine (HU2.out _).mono ?_; rintro e w2 ⟨rfl, hB2⟩; replace HS := Lib.hid (HS.out.below hB2); replace HB := Lib.hid (HB.out.trans (hB2.mono HB.out.size)); clear hB2)
      | (go_at_call 34; refine (HU1.out _).mono ?_; rintro e w2 ⟨rfl, hB2⟩; replace HS := Lib.hid (HS.out.below hB2); replace HB := Lib.hid (HB.out.trans (hB2.mono HB.out.size)); clear hB2)
      | (go_at_call_of 33 (Value.bool false); refine (HT2.out _ _ HS.out).mono ?_; rintro e w2 ⟨rfl, hB2⟩; replace HS := Lib.hid (HS.out.below hB2); replace HB := Lib.hid (HB.out.trans (hB2.mono HB.out.size)); clear hB2)
      | (go_at_call 35; refine (lives08 _).mono ?_; rintro e w2 ⟨rfl, hB2⟩; replace HB := Lib.hid (HB.out.trans (hB2.mono HB.out.size)); clear hB2))
    go_ret
    exact ⟨rfl, HB.out⟩
end Go.Proofs.Ytfhegloobldokaa
