/- The law OpShows: its own body. -/
import Derived.Test.YtjkakmmhbciilaaOpFZ
import Derived.Test.YtjkakmmhbciilaaOpT
namespace Go.Proofs.Ytjkakmmhbciilaa
set_option linter.unusedSimpArgs false
set_option linter.unusedVariables false
open Go.RowKit Go.Sort
theorem oshows_out (s ix c d n ln pc : Int) (w : World) (h : ln < 0 ∨ 8 < ln) : Calls Try.prog 4 #[.agg #[.int .i64 s, .int .i64 ix, .int .u8 c, .int .u8 d, .int .u16 n, .int .i64 ln], .int .u16 pc] w (Yes w) := by
  have HL := Lib.hid (fun u => lives07 u)
  rcases (show ln < 0 ∨ (¬ ln < 0 ∧ 8 < ln) by omega) with d1 | ⟨d1, d2⟩
  all_goals
    clear h
    go_enter Try.func4, Try.ntmps4
    go_wp2_with (first
      | (go_at_call 8; refine (HL.out _).mono ?_; rintro e w1 ⟨rfl, hb1⟩))
    go_ret
    exact ⟨rfl, (below_box _ _).trans (hb1.mono (by simp))⟩
set_option maxRecDepth 100000 in
set_option maxHeartbeats 8000000 in
theorem oshows_in (s ix c d n ln pc : Int) (w : World) (hr : Rng c d n ln pc) : Calls Try.prog 4 #[.agg #[.int .i64 s, .int .i64 ix, .int .u8 c, .int .u8 d, .int .u16 n, .int .i64 ln], .int .u16 pc] w (Yes w) := by
  have HL : Hid (Gives 8 #[] (.bool true)) := Lib.hid (fun u => lives07 u)
  have H1 := show_any s ix c d n ln pc hr
  rw [show_same s ix c d n ln pc hr] at H1
  have H2 := show7_any s ix c d n ln pc hr
  obtain ⟨t, ht⟩ : ∃ t, t = show7T s ix c d n ln pc := ⟨_, rfl⟩
  rw [← ht] at H1 H2
  have H1 := Lib.hid H1
  have H2 := Lib.hid H2
  obtain ⟨l0, l1⟩ := hr.l
  have d1 : ¬ ln < 0 := by omega
  have d2 : ¬ 8 < ln := by omega
  clear ht hr
  have HB0 := Lib.hid ((Blk.new w 29 [.int .i64 s, .int .i64 ix, .int .u8 c, .int .u8 d, .int .u16 n, .int .i64 ln]).alloc (.cells #[.int .i64 s, .int .i64 ix, .int .u8 c, .int .u8 d, .int .u16 n, .int .i64 ln] 26))
  have HB1 := Lib.hid (blk_alloc2_new w (.cells #[.int .i64 s, .int .i64 ix, .int .u8 c, .int .u8 d, .int .u16 n, .int .i64 ln] 29) 26 [.int .i64 s, .int .i64 ix, .int .u8 c, .int .u8 d, .int .u16 n, .int .i64 ln])
  obtain ⟨k0, k1, k2, k3, k4, k5⟩ := cells6 HB0.out
  obtain ⟨m0, m1, m2, m3, m4, m5⟩ := cells6 HB1.out
  go_enter Try.func4, Try.ntmps4
  go_wp2_with fail
  refine wp_region_quiet_below (by kernel_rfl) (by kernel_rfl) ?_
  repeat (quiet_step (first | (go_at_call 12; exact H1.out.q) | (go_at_call 13; exact H2.out.q) | (go_at_call 8; exact HL.out.q)))
  refine wpQuiet_nil ?_
  intro _ hwq
  obtain ⟨⟨dq, osq⟩, hwr⟩ := hwq
  subst hwr
  go_wp2
  go_ret
  exact ⟨rfl, below_quiet _ _ _ _ (by exact ((Below.refl _ w).alloc (Nat.le_refl _) _).alloc (by simp) _)⟩
end Go.Proofs.Ytjkakmmhbciilaa
