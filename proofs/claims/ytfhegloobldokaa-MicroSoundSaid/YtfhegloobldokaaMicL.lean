/- The law of stage 8: sound. -/
import Derived.Test.YtfhegloobldokaaMicK
namespace Go.Proofs.Ytfhegloobldokaa
set_option linter.unusedSimpArgs false
set_option linter.unusedVariables false
open Go.RowKit
set_option maxHeartbeats 400000 in
theorem sound_step (s : Stp) (w : World) (h : Mi.soundS s = true) :
    Calls Try.prog 36 #[.agg #[.int .i64 s.1, .int .i64 s.2.1, .int .i64 s.2.2.1, .int .i64 s.2.2.2]] w (True_ w) := by
  obtain ⟨k, a, v, n⟩ := s
  unfold Mi.soundS at h
  simp only [Bool.or_eq_true, Bool.and_eq_true, beq_iff_eq, decide_eq_true_eq] at h
  rcases h with ((((((⟨⟨⟨rfl, k1⟩, k2⟩, rfl | rfl⟩ | ⟨⟨rfl, rfl⟩, ((((((rfl | rfl) | rfl) | rfl) | rfl) | rfl) | rfl)⟩) | ⟨⟨rfl, rfl⟩, (((((rfl | rfl) | rfl) | rfl) | rfl) | rfl)⟩) | ⟨⟨rfl, rfl⟩, rfl | rfl⟩) | ⟨⟨rfl, rfl⟩, rfl | rfl⟩) | ⟨rfl, rfl⟩) | ⟨rfl, rfl⟩)
  all_goals
    go_enter Try.func36, Try.ntmps36
    go_wp2
    go_ret
    exact ⟨rfl, (Below.refl _ _).alloc (Nat.le_refl _) _⟩
end Go.Proofs.Ytfhegloobldokaa
