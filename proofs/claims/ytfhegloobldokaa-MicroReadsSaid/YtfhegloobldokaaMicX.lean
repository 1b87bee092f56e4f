/- The law MicroReads: its own body. -/
import Derived.Test.YtfhegloobldokaaMicW
namespace Go.Proofs.Ytfhegloobldokaa
set_option linter.unusedSimpArgs false
set_option linter.unusedVariables false
open Go.RowKit
set_option maxRecDepth 100000 in
set_option maxHeartbeats 4000000 in
theorem microReads_any (ix c : Int) (w : World) (h0 : 0 ≤ c) (h1 : c ≤ 255) : Calls Try.prog 11 #[.int .i64 ix, .int .u8 c] w (True_ w) := by
  have kk : ∃ i : Int, 0 ≤ i ∧ i ≤ 2 ∧ (2 < ix ∧ i = 2 ∨ (0 < ix ∧ ix ≤ 2 ∧ i = ix) ∨ (ix ≤ 0 ∧ i = 0)) := by
    by_cases k1 : 2 < ix
    · exact ⟨2, by omega, by omega, by omega⟩
    · by_cases k2 : 0 < ix
      · exact ⟨ix, by omega, by omega, by omega⟩
      · exact ⟨0, by omega, by omega, by omega⟩
  obtain ⟨i, i0, i1, kk⟩ := kk
  obtain ⟨hlen, hsnd⟩ := Mi.good_all 0 i c h0 h1
  obtain ⟨e1, e2⟩ := Mi.reads_all i c h0 h1 i0 i1
  have hP := fun w => program_nil 0 i c w h0 h1
  have hA := fun w => args7_any c w h0 h1
  have hM := fun w => mem7_any c w h0 h1
  have hB := fun w => bytes_any i c w h0 h1
  rw [e2] at hB
  have hr : 0 ≤ Mi.args7 c ∧ Mi.args7 c ≤ 2 := by
    obtain ⟨n, rfl⟩ := Int.eq_ofNat_of_zero_le h0
    exact Mi.args7_ran n (by omega)
  obtain ⟨L, hL⟩ : ∃ L, L = Mi.programS 0 i c := ⟨_, rfl⟩
  rw [← hL] at hlen hsnd e1
  simp only [← hL] at hP
  have hF := fun v w h => fetches_any v L w h (by omega)
  rw [e1] at hF
  unfold Mi.wantS at hF hB
  obtain ⟨a, ha⟩ : ∃ a, a = Mi.args7 c := ⟨_, rfl⟩
  obtain ⟨m, hm⟩ : ∃ m, m = Mi.mem7 c := ⟨_, rfl⟩
  simp only [← ha, ← hm] at hA hM hB hr hF
  obtain ⟨r0, r1⟩ := hr
  obtain ⟨t, ht⟩ : ∃ t, t = a + if 0 < i ∧ m = true then (1 : Int) else 0 := ⟨_, rfl⟩
  simp only [← ht] at hB hF
  have HP := Lib.hid hP; have HA := Lib.hid hA; have HM := Lib.hid hM; have HBY := Lib.hid hB; have HF := Lib.hid hF
  clear hP hA hM hB hF hL hsnd hlen e1 e2 ha hm
  have HTT := Lib.hid ht
  clear ht
  have kx : (2 < ix ∧ i = 2) ∨ (ix = 2 ∧ i = 2) ∨ (ix = 1 ∧ i = 1) ∨ (ix = 0 ∧ i = 0) ∨ (ix < 0 ∧ i = 0) := by omega
  clear kk i0 i1
  rcases kx with ⟨k, rfl⟩ | ⟨rfl, rfl⟩ | ⟨rfl, rfl⟩ | ⟨rfl, rfl⟩ | ⟨k, rfl⟩
  all_goals
    cases m
    all_goals
      have ht := HTT.out
      clear HTT
      simp at ht
      subst ht
      go_enter Try.func11, Try.ntmps11
      go_wp2_with (first
        | (go_at_call 37; refine (HA.out _).mono ?_; rintro e w1 ⟨rfl, hB⟩; have HB := Lib.hid hB; clear hB)
        | (go_at_call 38; refine (HM.out _).mono ?_; rintro e w1 ⟨rfl, hB2⟩; replace HB := Lib.hid (HB.out.trans (hB2.mono HB.out.size)); clear hB2)
        | (go_at_call 32; refine (HP.out _).mono ?_; rintro e w1 ⟨v, rfl, hs, hB⟩; have HS := Lib.hid hs; replace HB := Lib.hid (HB.out.trans (hB.mono HB.out.size)); clear hs hB)
        | (go_at_call 39; refine (HF.out _ _ HS.out).mono ?_; rintro e w2 ⟨rfl, hB2⟩; replace HB := Lib.hid (HB.out.trans (hB2.mono HB.out.size)); clear hB2)
        | (go_at_call 40; refine (HBY.out _).mono ?_; rintro e w2 ⟨rfl, rfl⟩)
        | (go_at_call 35; refine (lives08 _).mono ?_; rintro e w2 ⟨rfl, hB2⟩; replace HB := Lib.hid (HB.out.trans (hB2.mono HB.out.size)); clear hB2))
      go_ret
      exact ⟨rfl, HB.out⟩
end Go.Proofs.Ytfhegloobldokaa
