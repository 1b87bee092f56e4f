/- squealref07.Show: behind 203, and behind an index and 203; any instruction. -/
import Derived.Test.YtjkakmmhbciilaaOpFW
namespace Go.Proofs.Ytjkakmmhbciilaa
set_option linter.unusedSimpArgs false
set_option linter.unusedVariables false
open Go.RowKit Go.Sort
set_option maxRecDepth 100000 in
set_option maxHeartbeats 8000000 in
theorem show7_1 (ix c d n ln pc : Int) (hr : Rng c d n ln pc) :
    Gives 13 #[.agg #[.int .i64 1, .int .i64 ix, .int .u8 c, .int .u8 d, .int .u16 n, .int .i64 ln], .int .u16 pc] (.string ⟨(bitsT id (Mi.regsL.getD (c % 8).toNat []) (c / 64) (c / 8 % 8)).toArray⟩) := by
  intro w
  have h0 := hr.c0
  have h1 := hr.c1
  obtain ⟨z, hz⟩ : ∃ z : Nat, c % 8 = z := ⟨(c % 8).toNat, by omega⟩
  have e : (c % 8).toNat = z := by omega
  rw [e]
  have HRG := Lib.hid (fun w => regs_one z _ (str_at Mi.regsL z (by simp [Mi.regsL]; omega)) w)
  have ml := regs_le z
  have HBT := Lib.hid (bits7_any c (Mi.regsL.getD z []) h0 h1 (by omega))
  obtain ⟨m, hm⟩ : ∃ m, m = Mi.regsL.getD z [] := ⟨_, rfl⟩
  rw [← hm] at HRG HBT ⊢
  obtain ⟨R, hR⟩ : ∃ R, R = bitsT id m (c / 64) (c / 8 % 8) := ⟨_, rfl⟩
  rw [← hR] at HBT ⊢
  have wc : IntKind.i64.wrap c = c := by rw [IntKind.wrap_i64]; omega
  have t1 : Int.tmod c 8 = z := by rw [Int.tmod_eq_emod_of_nonneg h0]; exact hz
  have z8 : z < 8 := by omega
  have z9 : (z : Int) < 8 := by omega
  clear hm hR e ml hz
  go_enter Try.func13, Try.ntmps13
  go_wp2_with fail
  go_region_with (first
    | (go_at_call 32; refine (HRG.out _).mono ?_; rintro e w1 ⟨g, cc, rfl, hcell, hb⟩; obtain ⟨hc, hf⟩ := bcell hb)
    | (go_at_call 31; refine (HBT.out _).mono ?_; rintro e w2 ⟨rfl, hb2⟩))
  all_goals
    go_wp2_with fail
    go_ret
    refine ⟨rfl, ?_⟩
    first
      | exact (((Below.refl _ w).alloc (Nat.le_refl _) _).drew.trans (hb.mono (by simp))).trans (hb2.mono (by have := hb.size; simp at this; omega))
      | exact (((Below.refl _ w).alloc (Nat.le_refl _) _).trans (hb.mono (by simp))).trans (hb2.mono (by have := hb.size; simp at this; omega))
theorem show7_3a (ix c d n ln pc : Int) (hr : Rng c d n ln pc) (hx : c / 64 = 1 ∨ c % 8 = 6) :
    Gives 13 #[.agg #[.int .i64 3, .int .i64 ix, .int .u8 c, .int .u8 d, .int .u16 n, .int .i64 ln], .int .u16 pc] (.string ⟨(bitsT id (awayS ix d) (c / 64) (c / 8 % 8)).toArray⟩) := by
  intro w
  have h0 := hr.c0
  have h1 := hr.c1
  have al := awayS_len ix d
  have HAW := Lib.hid (gives_same fun w => away7_any ix d w hr.d)
  have HBT := Lib.hid (bits7_any c (awayS ix d) h0 h1 (by omega))
  obtain ⟨m, hm⟩ : ∃ m, m = awayS ix d := ⟨_, rfl⟩
  rw [← hm] at HAW HBT ⊢
  obtain ⟨R, hR⟩ : ∃ R, R = bitsT id m (c / 64) (c / 8 % 8) := ⟨_, rfl⟩
  rw [← hR] at HBT ⊢
  have wc : IntKind.i64.wrap c = c := by rw [IntKind.wrap_i64]; omega
  have t1 : Int.tmod c 8 = c % 8 := Int.tmod_eq_emod_of_nonneg h0
  have t2 : Int.tdiv c 64 = c / 64 := Int.tdiv_eq_ediv_of_nonneg h0
  have t3 : IntKind.i64.wrap (c / 64) = c / 64 := by rw [IntKind.wrap_i64]; omega
  obtain ⟨k0, k1, k2, k3, k4, k5⟩ := cells6 (Blk.new w 29 [.int .i64 3, .int .i64 ix, .int .u8 c, .int .u8 d, .int .u16 n, .int .i64 ln])
  clear hm hR al
  by_cases hx1 : c / 64 = 1
  · rw [hx1] at t2 t3
    clear hx hx1
    go_enter Try.func13, Try.ntmps13
    go_wp2_with fail
    refine wp_region_quiet_below (by kernel_rfl) (by kernel_rfl) ?_
    repeat (quiet_step (first | (go_at_call 34; exact HAW.out.q) | (go_at_call 31; exact HBT.out.q)))
    refine wpQuiet_nil ?_
    intro _ hwq
    obtain ⟨⟨dq, osq⟩, hwr⟩ := hwq
    subst hwr
    go_wp2
    go_ret
    exact ⟨rfl, below_quiet _ _ _ _ (below_box _ _)⟩
  · have hx6 : c % 8 = 6 := by omega
    rw [hx6] at t1
    have xb : (c / 64 != 1) = true := by simpa using hx1
    clear hx hx1 hx6
    go_enter Try.func13, Try.ntmps13
    go_wp2_with fail
    refine wp_region_quiet_below (by kernel_rfl) (by kernel_rfl) ?_
    repeat (quiet_step (first | (go_at_call 34; exact HAW.out.q) | (go_at_call 31; exact HBT.out.q)))
    refine wpQuiet_nil ?_
    intro _ hwq
    obtain ⟨⟨dq, osq⟩, hwr⟩ := hwq
    subst hwr
    go_wp2
    go_ret
    exact ⟨rfl, below_quiet _ _ _ _ (below_box _ _)⟩
end Go.Proofs.Ytjkakmmhbciilaa
