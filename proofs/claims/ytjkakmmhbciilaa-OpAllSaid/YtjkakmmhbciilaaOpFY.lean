/- squealref07.Show: behind an index and 203; any instruction. -/
import Derived.Test.YtjkakmmhbciilaaOpFX
import Derived.Test.YtjkakmmhbciilaaOpFG
namespace Go.Proofs.Ytjkakmmhbciilaa
set_option linter.unusedSimpArgs false
set_option linter.unusedVariables false
open Go.RowKit Go.Sort
set_option maxRecDepth 100000 in
set_option maxHeartbeats 8000000 in
theorem show7_3b (ix c d n ln pc : Int) (hr : Rng c d n ln pc) (hx1 : c / 64 ≠ 1) (hx6 : c % 8 ≠ 6) :
    Gives 13 #[.agg #[.int .i64 3, .int .i64 ix, .int .u8 c, .int .u8 d, .int .u16 n, .int .i64 ln], .int .u16 pc] (.string ⟨(bitsT id (awayS ix d) (c / 64) (c / 8 % 8) ++ [44] ++ Mi.regsL.getD (c % 8).toNat []).toArray⟩) := by
  intro w
  have h0 := hr.c0
  have h1 := hr.c1
  have al := awayS_len ix d
  have HAW := Lib.hid (gives_same fun w => away7_any ix d w hr.d)
  have HBT := Lib.hid (bits7_any c (awayS ix d) h0 h1 (by omega))
  have bl := bitsT_len (awayS ix d) (c / 64) (c / 8 % 8) (by omega)
  obtain ⟨m, hm⟩ : ∃ m, m = awayS ix d := ⟨_, rfl⟩
  rw [← hm] at HAW HBT bl ⊢
  obtain ⟨R, hR⟩ : ∃ R, R = bitsT id m (c / 64) (c / 8 % 8) := ⟨_, rfl⟩
  rw [← hR] at HBT bl ⊢
  obtain ⟨z, hz⟩ : ∃ z : Nat, c % 8 = z := ⟨(c % 8).toNat, by omega⟩
  have e : (c % 8).toNat = z := by omega
  rw [e]
  have HRG := Lib.hid (fun w => regs_one z _ (str_at Mi.regsL z (by simp [Mi.regsL]; omega)) w)
  have ml := regs_le z
  obtain ⟨m2, hm2⟩ : ∃ m, m = Mi.regsL.getD z [] := ⟨_, rfl⟩
  rw [← hm2] at HRG ml ⊢
  have wc : IntKind.i64.wrap c = c := by rw [IntKind.wrap_i64]; omega
  have t1 : Int.tmod c 8 = z := by rw [Int.tmod_eq_emod_of_nonneg h0]; exact hz
  have t2 : Int.tdiv c 64 = c / 64 := Int.tdiv_eq_ediv_of_nonneg h0
  have t3 : IntKind.i64.wrap (c / 64) = c / 64 := by rw [IntKind.wrap_i64]; omega
  have z8 : z < 8 := by omega
  have z9 : (z : Int) < 8 := by omega
  have z6 : ((z : Int) != 6) = true := by simp; omega
  have xb : (c / 64 != 1) = true := by simpa using hx1
  obtain ⟨k0, k1, k2, k3, k4, k5⟩ := cells6 (Blk.new w 29 [.int .i64 3, .int .i64 ix, .int .u8 c, .int .u8 d, .int .u16 n, .int .i64 ln])
  clear hm hR al hm2 e hz hx6 hx1
  go_enter Try.func13, Try.ntmps13
  go_wp2_with fail
  refine wp_region_quiet_below (by kernel_rfl) (by kernel_rfl) ?_
  repeat (quiet_step (first | (go_at_call 34; exact HAW.out.q) | (go_at_call 31; exact HBT.out.q)))
  refine wpQuiet_nil ?_
  intro wx hwq
  obtain ⟨⟨dq, osq⟩, hwr⟩ := hwq
  have c0 : wx.cell? ⟨w.heap.size, 0, none⟩ = some (.int .i64 3) := by rw [hwr]; exact k0 dq osq
  have c2 : wx.cell? ⟨w.heap.size, 2, none⟩ = some (.int .u8 c) := by rw [hwr]; exact k2 dq osq
  have HBW : Hid (Below w.heap.size w wx) := Lib.hid (by rw [hwr]; exact below_quiet _ _ _ _ (below_box _ _))
  have hsz : w.heap.size < wx.heap.size := block_lt_of_cell c2
  clear hwr k0 k1 k2 k3 k4 k5
  go_wp2_with fail
  go_region_with (first
    | (go_at_call 32; refine (HRG.out _).mono ?_; rintro e w1 ⟨g, cc, rfl, hcell, hb⟩; have c2x : w1.cell? ⟨w.heap.size, 2, none⟩ = some (.int .u8 c) := (hb.cell (block_lt_of_cell c2)).trans c2))
  all_goals
    go_wp2_with fail
    go_ret
    refine ⟨str_of' ?_, ?_⟩
    · first | rfl | (simp only [← app_data]; done) | (simp only [← app_data]; rfl)
    · first
        | exact HBW.out.drew.trans (hb.mono HBW.out.drew.size)
        | exact HBW.out.trans (hb.mono HBW.out.size)
theorem show7_any (s ix c d n ln pc : Int) (hr : Rng c d n ln pc) : Gives 13 #[.agg #[.int .i64 s, .int .i64 ix, .int .u8 c, .int .u8 d, .int .u16 n, .int .i64 ln], .int .u16 pc] (.string ⟨(show7T s ix c d n ln pc).toArray⟩) := by
  unfold show7T
  by_cases s0 : s = 0
  · subst s0
    rw [if_pos rfl]
    by_cases hx : ix = 1 ∨ ix = 2
    · rw [if_pos hx]; exact show7_0x ix c d n ln pc hx hr
    · rw [if_neg hx]
      exact show7_0 ix c d n ln pc _ rfl hr (by simp only [beq_eq_false_iff_ne]; intro e; exact hx (.inl e)) (by simp only [beq_eq_false_iff_ne]; intro e; exact hx (.inr e))
  rw [if_neg s0]
  by_cases s1 : s = 1
  · subst s1; rw [if_pos rfl]; exact show7_1 ix c d n ln pc hr
  rw [if_neg s1]
  by_cases s2 : s = 2
  · subst s2; rw [if_pos rfl]; exact show7_2 ix c d n ln pc hr
  rw [if_neg s2]
  by_cases s3 : s = 3
  · subst s3
    rw [if_pos rfl]
    by_cases hx1 : c / 64 = 1
    · rw [if_pos hx1]; exact show7_3a ix c d n ln pc hr (.inl hx1)
    · rw [if_neg hx1]
      by_cases hx6 : c % 8 = 6
      · rw [if_pos hx6]; exact show7_3a ix c d n ln pc hr (.inr hx6)
      · rw [if_neg hx6]; exact show7_3b ix c d n ln pc hr hx1 hx6
  rw [if_neg s3]
  by_cases s4 : s = 4
  · subst s4; rw [if_pos rfl]; exact show7_4 ix c d n ln pc
  rw [if_neg s4]
  exact show7_n s ix c d n ln pc (by simpa using s0) (by simpa using s1) (by simpa using s2) (by simpa using s3) (by simpa using s4)
end Go.Proofs.Ytjkakmmhbciilaa
