/- Package micro: Program, Time, Fetches. -/
import Derived.Test.YtbhpmnhlmeglcaaGreatTMicF
import Derived.Test.YtbhpmnhlmeglcaaGreatTMicH
namespace Go.Proofs.YtbhpmnhlmeglcaaGreat
set_option linter.unusedSimpArgs false
set_option linter.unusedVariables false
open Go.RowKit
theorem index_cases (ix : Int) : (ix = 1 ∧ Mi.index ix = 1) ∨ (ix = 2 ∧ Mi.index ix = 2) ∨ (ix ≠ 1 ∧ ix ≠ 2 ∧ Mi.index ix = 0) := by
  unfold Mi.index
  by_cases h1 : ix = 1
  · subst h1; left; simp
  · by_cases h2 : ix = 2
    · subst h2; right; left; simp
    · right; right; exact ⟨h1, h2, by simp [h1, h2]⟩

set_option maxRecDepth 100000 in
set_option maxHeartbeats 4000000 in
theorem program_any (set ix c : Int) (base n : Nat) (v : Value) (xs : List Value) (w : World) (ho : w.ownsRow base 65 4 v n xs) (hb : base ≤ w.heap.size) (hx0 : xs.length ≤ 4000) (h0 : 0 ≤ c) (h1 : c ≤ 255) :
    Calls Tryz.prog 43 #[v, .int .i64 set, .int .i64 ix, .int .u8 c] w (Next_ base w v xs (flat (Mi.programS set ix c))) := by
  have HS := Lib.hid (St.refl ho hb)
  clear ho hb
  have hI := index_cases ix
  obtain ⟨I, hIe⟩ : ∃ I, I = Mi.index ix := ⟨_, rfl⟩
  rw [← hIe] at hI
  obtain ⟨R, hR⟩ : ∃ R, R = flat (Mi.programS set ix c) := ⟨_, rfl⟩
  have key : (set = 0 ∧ c / 64 = 0) ∨ (set = 0 ∧ c / 64 = 1) ∨ (set = 0 ∧ c / 64 = 2) ∨ (set = 0 ∧ c / 64 = 3) ∨ set = 1 ∨ set = 2 ∨ set = 3 ∨ (set ≠ 0 ∧ set ≠ 1 ∧ set ≠ 2 ∧ set ≠ 3) := by omega
  have hRR : (set = 0 ∧ c / 64 = 0 → R = flat (Mi.firstS I c)) ∧ (set = 0 ∧ c / 64 = 1 → R = flat (Mi.loadsS I c)) ∧ (set = 0 ∧ c / 64 = 2 → R = flat (Mi.sumsS I c)) ∧ (set = 0 ∧ c / 64 = 3 → R = flat (Mi.lastS c)) ∧ (set = 1 → R = flat (Mi.bitsS c)) ∧ (set = 2 → R = flat (Mi.secondS c)) ∧ (set = 3 → R = flat (Mi.indexedS c)) ∧ (set ≠ 0 ∧ set ≠ 1 ∧ set ≠ 2 ∧ set ≠ 3 → R = []) := by
    rw [hR, hIe]
    unfold Mi.programS
    refine ⟨?_, ?_, ?_, ?_, ?_, ?_, ?_, ?_⟩
    · rintro ⟨rfl, h⟩; simp [h]
    · rintro ⟨rfl, h⟩; simp [h]
    · rintro ⟨rfl, h⟩; simp [h]
    · rintro ⟨rfl, h⟩; simp [h]
    · rintro rfl; simp
    · rintro rfl; simp
    · rintro rfl; simp
    · rintro ⟨a, b, d, e⟩; simp [a, b, d, e, flat]
  have HRR := Lib.hid hRR
  rw [← hR]
  clear hR hIe hRR
  have hix : (ix = 1 ∧ I = 1) ∨ (ix = 2 ∧ I = 2) ∨ ((ix != 1) = true ∧ (ix != 2) = true ∧ I = 0) := by
    rcases hI with h | h | ⟨a, b, h⟩
    · exact .inl h
    · exact .inr (.inl h)
    · exact .inr (.inr ⟨by simpa using a, by simpa using b, h⟩)
  clear hI
  rcases key with ⟨rfl, k⟩ | ⟨rfl, k⟩ | ⟨rfl, k⟩ | ⟨rfl, k⟩ | rfl | rfl | rfl | ⟨s0, s1, s2, s3⟩
  · obtain rfl := HRR.out.1 ⟨rfl, k⟩
    rcases hix with ⟨rfl, rfl⟩ | ⟨rfl, rfl⟩ | ⟨a, b, rfl⟩
    all_goals
      go_enter Tryz.func43, Tryz.ntmps43
      go_wp2_with (first
        | (go_at_call 54; refine (x_any _ _ h0 h1).mono ?_; rintro e w' ⟨rfl, rfl⟩)
        | (go_at_call 55; refine (HS.out.call (by omega) (by simp) fun n ho hb hx => first_any _ c base n _ _ _ ho hb (by simpa using hx0) h0 h1).mono ?_; rintro e w' ⟨v1, rfl, hs⟩; have HS := Lib.hid hs; clear hs))
      go_ret
      exact ⟨_, rfl, HS.out⟩
  · obtain rfl := HRR.out.2.1 ⟨rfl, k⟩
    rcases hix with ⟨rfl, rfl⟩ | ⟨rfl, rfl⟩ | ⟨a, b, rfl⟩
    all_goals
      go_enter Tryz.func43, Tryz.ntmps43
      go_wp2_with (first
        | (go_at_call 54; refine (x_any _ _ h0 h1).mono ?_; rintro e w' ⟨rfl, rfl⟩)
        | (go_at_call 56; refine (HS.out.call (by omega) (by simp) fun n ho hb hx => loads_any _ c base n _ _ _ ho hb (by simpa using hx0) h0 h1).mono ?_; rintro e w' ⟨v1, rfl, hs⟩; have HS := Lib.hid hs; clear hs))
      go_ret
      exact ⟨_, rfl, HS.out⟩
  · obtain rfl := HRR.out.2.2.1 ⟨rfl, k⟩
    rcases hix with ⟨rfl, rfl⟩ | ⟨rfl, rfl⟩ | ⟨a, b, rfl⟩
    all_goals
      go_enter Tryz.func43, Tryz.ntmps43
      go_wp2_with (first
        | (go_at_call 54; refine (x_any _ _ h0 h1).mono ?_; rintro e w' ⟨rfl, rfl⟩)
        | (go_at_call 57; refine (HS.out.call (by omega) (by simp) fun n ho hb hx => sums_any _ c base n _ _ _ ho hb (by simpa using hx0) h0 h1).mono ?_; rintro e w' ⟨v1, rfl, hs⟩; have HS := Lib.hid hs; clear hs))
      go_ret
      exact ⟨_, rfl, HS.out⟩
  · obtain rfl := HRR.out.2.2.2.1 ⟨rfl, k⟩
    rcases hix with ⟨rfl, rfl⟩ | ⟨rfl, rfl⟩ | ⟨a, b, rfl⟩
    all_goals
      go_enter Tryz.func43, Tryz.ntmps43
      go_wp2_with (first
        | (go_at_call 54; refine (x_any _ _ h0 h1).mono ?_; rintro e w' ⟨rfl, rfl⟩)
        | (go_at_call 58; refine (HS.out.call (by omega) (by simp) fun n ho hb hx => last_any c base n _ _ _ ho hb (by simpa using hx0) h0 h1).mono ?_; rintro e w' ⟨v1, rfl, hs⟩; have HS := Lib.hid hs; clear hs))
      go_ret
      exact ⟨_, rfl, HS.out⟩
  · obtain rfl := HRR.out.2.2.2.2.1 rfl
    rcases hix with ⟨rfl, rfl⟩ | ⟨rfl, rfl⟩ | ⟨a, b, rfl⟩
    all_goals
      go_enter Tryz.func43, Tryz.ntmps43
      go_wp2_with (first
        | (go_at_call 59; refine (HS.out.call (by omega) (by simp) fun n ho hb hx => bits_any c base n _ _ _ ho hb (by simpa using hx0) h0 h1).mono ?_; rintro e w' ⟨v1, rfl, hs⟩; have HS := Lib.hid hs; clear hs))
      go_ret
      exact ⟨_, rfl, HS.out⟩
  · obtain rfl := HRR.out.2.2.2.2.2.1 rfl
    rcases hix with ⟨rfl, rfl⟩ | ⟨rfl, rfl⟩ | ⟨a, b, rfl⟩
    all_goals
      go_enter Tryz.func43, Tryz.ntmps43
      go_wp2_with (first
        | (go_at_call 60; refine (HS.out.call (by omega) (by simp) fun n ho hb hx => second_any c base n _ _ _ ho hb (by simpa using hx0) h0 h1).mono ?_; rintro e w' ⟨v1, rfl, hs⟩; have HS := Lib.hid hs; clear hs))
      go_ret
      exact ⟨_, rfl, HS.out⟩
  · obtain rfl := HRR.out.2.2.2.2.2.2.1 rfl
    rcases hix with ⟨rfl, rfl⟩ | ⟨rfl, rfl⟩ | ⟨a, b, rfl⟩
    all_goals
      go_enter Tryz.func43, Tryz.ntmps43
      go_wp2_with (first
        | (go_at_call 61; refine (HS.out.call (by omega) (by simp) fun n ho hb hx => indexed_any c base n _ _ _ ho hb (by simpa using hx0) h0 h1).mono ?_; rintro e w' ⟨v1, rfl, hs⟩; have HS := Lib.hid hs; clear hs))
      go_ret
      exact ⟨_, rfl, HS.out⟩
  · obtain rfl := HRR.out.2.2.2.2.2.2.2 ⟨s0, s1, s2, s3⟩
    have t0 : (set == 0) = false := by simpa using s0
    have t1 : (set == 1) = false := by simpa using s1
    have t2 : (set == 2) = false := by simpa using s2
    have t3 : (set == 3) = false := by simpa using s3
    clear s0 s1 s2 s3
    rcases hix with ⟨rfl, rfl⟩ | ⟨rfl, rfl⟩ | ⟨a, b, rfl⟩
    all_goals
      go_enter Tryz.func43, Tryz.ntmps43
      go_wp2_with fail
      go_ret
      exact ⟨_, rfl, HS.out⟩
end Go.Proofs.YtbhpmnhlmeglcaaGreat
