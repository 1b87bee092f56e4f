/- op: moved, bits, plain, branch by branch. (printed by wip/gen/gen_opsh.py) -/
import Derived.Test.YtjkakmmhbciilaaOpFB
namespace Go.Proofs.Ytjkakmmhbciilaa
set_option linter.unusedSimpArgs false
set_option linter.unusedVariables false
open Go.RowKit Go.Sort
set_option maxRecDepth 100000 in
set_option maxHeartbeats 4000000 in
theorem moved_00 (s ix c d n ln x y z : Int) (h4 pr : List UInt8) (HP : Hid (OpParts c x y z 0 0)) (HG : Hid (OpGives c x y z 0 0)) (HH4 : Hid (Gives 46 #[.int .u16 n, .int .i64 4] (.string ⟨h4.toArray⟩))) (h4l : h4.length ≤ 8) (HPR : Hid (Gives 44 #[.agg #[.int .i64 s, .int .i64 ix, .int .u8 c, .int .u8 d, .int .u16 n, .int .i64 ln], .int .i64 0] (.string ⟨pr.toArray⟩))) (prl : pr.length ≤ 8) :
    Gives 62 #[.agg #[.int .i64 s, .int .i64 ix, .int .u8 c, .int .u8 d, .int .u16 n, .int .i64 ln]] (.string ⟨([108, 100, 32] ++ [40] ++ pr ++ [41] ++ [44] ++ [97]).toArray⟩) := by
  intro w
  have sz0 : ¬ 9223372036854775807 < 1 + pr.length := by omega
  have sz1 : ¬ 9223372036854775807 < 1 + pr.length + 1 := by omega
  go_enter Try.func62, Try.ntmps62
  go_wp2_with (first
    | (go_at_call 45; refine (HP.out.p _).mono ?_; rintro e w' ⟨rfl, rfl⟩)
    | (go_at_call 43; refine (HP.out.q _).mono ?_; rintro e w' ⟨rfl, rfl⟩)
    | (go_at_call 46; refine (HH4.out _).mono ?_; rintro e w1 ⟨rfl, hb1⟩; have HB := Lib.hid ((Blk.new w 26 [.int .i64 s, .int .i64 ix, .int .u8 c, .int .u8 d, .int .u16 n, .int .i64 ln]).below_ hb1); obtain ⟨k0, k1, k2, k3, k4, k5⟩ := cells6 HB.out; have c0 := HB.out.cell 0; have c1 := HB.out.cell 1; have c2 := HB.out.cell 2; have c3 := HB.out.cell 3; have c4 := HB.out.cell 4; have c5 := HB.out.cell 5;  have HB1 := Lib.hid hb1; clear hb1))
  refine wp_region_quiet_below (by kernel_rfl) (by kernel_rfl) ?_
  repeat (quiet_step (first | (go_at_call 25; exact HG.out.x.q) | (go_at_call 39; exact HG.out.y.q) | (go_at_call 22; exact HG.out.z.q) | (go_at_call 45; exact HG.out.p.q) | (go_at_call 43; exact HG.out.q.q) | (go_at_call 44; exact HPR.out.q)))
  refine wpQuiet_nil ?_
  intro _ hwq
  obtain ⟨⟨dq, osq⟩, hwr⟩ := hwq
  subst hwr
  go_wp2_with (first
    | (go_at_call 45; refine (HP.out.p _).mono ?_; rintro e w' ⟨rfl, rfl⟩)
    | (go_at_call 43; refine (HP.out.q _).mono ?_; rintro e w' ⟨rfl, rfl⟩))
  go_ret
  refine ⟨str_of' ?_, ?_⟩
  · first | rfl | (simp only [← app_data]; done) | (simp only [← app_data]; rfl) | (simp only [app_data, List.append_assoc, List.cons_append, List.nil_append])
  exact below_quiet _ _ _ _ ((below_box _ _).trans (HB1.out.mono (by simp)))
set_option maxRecDepth 100000 in
set_option maxHeartbeats 4000000 in
theorem moved_01 (s ix c d n ln x y z : Int) (h4 pr : List UInt8) (HP : Hid (OpParts c x y z 0 1)) (HG : Hid (OpGives c x y z 0 1)) (HH4 : Hid (Gives 46 #[.int .u16 n, .int .i64 4] (.string ⟨h4.toArray⟩))) (h4l : h4.length ≤ 8) (HPR : Hid (Gives 44 #[.agg #[.int .i64 s, .int .i64 ix, .int .u8 c, .int .u8 d, .int .u16 n, .int .i64 ln], .int .i64 0] (.string ⟨pr.toArray⟩))) (prl : pr.length ≤ 8) :
    Gives 62 #[.agg #[.int .i64 s, .int .i64 ix, .int .u8 c, .int .u8 d, .int .u16 n, .int .i64 ln]] (.string ⟨([108, 100, 32] ++ [97] ++ [44] ++ [40] ++ pr ++ [41]).toArray⟩) := by
  intro w
  have sz0 : ¬ 9223372036854775807 < 1 + pr.length := by omega
  have sz1 : ¬ 9223372036854775807 < 1 + pr.length + 1 := by omega
  go_enter Try.func62, Try.ntmps62
  go_wp2_with (first
    | (go_at_call 45; refine (HP.out.p _).mono ?_; rintro e w' ⟨rfl, rfl⟩)
    | (go_at_call 43; refine (HP.out.q _).mono ?_; rintro e w' ⟨rfl, rfl⟩)
    | (go_at_call 46; refine (HH4.out _).mono ?_; rintro e w1 ⟨rfl, hb1⟩; have HB := Lib.hid ((Blk.new w 26 [.int .i64 s, .int .i64 ix, .int .u8 c, .int .u8 d, .int .u16 n, .int .i64 ln]).below_ hb1); obtain ⟨k0, k1, k2, k3, k4, k5⟩ := cells6 HB.out; have c0 := HB.out.cell 0; have c1 := HB.out.cell 1; have c2 := HB.out.cell 2; have c3 := HB.out.cell 3; have c4 := HB.out.cell 4; have c5 := HB.out.cell 5;  have HB1 := Lib.hid hb1; clear hb1))
  refine wp_region_quiet_below (by kernel_rfl) (by kernel_rfl) ?_
  repeat (quiet_step (first | (go_at_call 25; exact HG.out.x.q) | (go_at_call 39; exact HG.out.y.q) | (go_at_call 22; exact HG.out.z.q) | (go_at_call 45; exact HG.out.p.q) | (go_at_call 43; exact HG.out.q.q) | (go_at_call 44; exact HPR.out.q)))
  refine wpQuiet_nil ?_
  intro _ hwq
  obtain ⟨⟨dq, osq⟩, hwr⟩ := hwq
  subst hwr
  go_wp2_with (first
    | (go_at_call 45; refine (HP.out.p _).mono ?_; rintro e w' ⟨rfl, rfl⟩)
    | (go_at_call 43; refine (HP.out.q _).mono ?_; rintro e w' ⟨rfl, rfl⟩))
  go_ret
  refine ⟨str_of' ?_, ?_⟩
  · first | rfl | (simp only [← app_data]; done) | (simp only [← app_data]; rfl) | (simp only [app_data, List.append_assoc, List.cons_append, List.nil_append])
  exact below_quiet _ _ _ _ ((below_box _ _).trans (HB1.out.mono (by simp)))
set_option maxRecDepth 100000 in
set_option maxHeartbeats 4000000 in
theorem moved_10 (s ix c d n ln x y z : Int) (h4 pr : List UInt8) (HP : Hid (OpParts c x y z 1 0)) (HG : Hid (OpGives c x y z 1 0)) (HH4 : Hid (Gives 46 #[.int .u16 n, .int .i64 4] (.string ⟨h4.toArray⟩))) (h4l : h4.length ≤ 8) (HPR : Hid (Gives 44 #[.agg #[.int .i64 s, .int .i64 ix, .int .u8 c, .int .u8 d, .int .u16 n, .int .i64 ln], .int .i64 1] (.string ⟨pr.toArray⟩))) (prl : pr.length ≤ 8) :
    Gives 62 #[.agg #[.int .i64 s, .int .i64 ix, .int .u8 c, .int .u8 d, .int .u16 n, .int .i64 ln]] (.string ⟨([108, 100, 32] ++ [40] ++ pr ++ [41] ++ [44] ++ [97]).toArray⟩) := by
  intro w
  have sz0 : ¬ 9223372036854775807 < 1 + pr.length := by omega
  have sz1 : ¬ 9223372036854775807 < 1 + pr.length + 1 := by omega
  go_enter Try.func62, Try.ntmps62
  go_wp2_with (first
    | (go_at_call 45; refine (HP.out.p _).mono ?_; rintro e w' ⟨rfl, rfl⟩)
    | (go_at_call 43; refine (HP.out.q _).mono ?_; rintro e w' ⟨rfl, rfl⟩)
    | (go_at_call 46; refine (HH4.out _).mono ?_; rintro e w1 ⟨rfl, hb1⟩; have HB := Lib.hid ((Blk.new w 26 [.int .i64 s, .int .i64 ix, .int .u8 c, .int .u8 d, .int .u16 n, .int .i64 ln]).below_ hb1); obtain ⟨k0, k1, k2, k3, k4, k5⟩ := cells6 HB.out; have c0 := HB.out.cell 0; have c1 := HB.out.cell 1; have c2 := HB.out.cell 2; have c3 := HB.out.cell 3; have c4 := HB.out.cell 4; have c5 := HB.out.cell 5;  have HB1 := Lib.hid hb1; clear hb1))
  refine wp_region_quiet_below (by kernel_rfl) (by kernel_rfl) ?_
  repeat (quiet_step (first | (go_at_call 25; exact HG.out.x.q) | (go_at_call 39; exact HG.out.y.q) | (go_at_call 22; exact HG.out.z.q) | (go_at_call 45; exact HG.out.p.q) | (go_at_call 43; exact HG.out.q.q) | (go_at_call 44; exact HPR.out.q)))
  refine wpQuiet_nil ?_
  intro _ hwq
  obtain ⟨⟨dq, osq⟩, hwr⟩ := hwq
  subst hwr
  go_wp2_with (first
    | (go_at_call 45; refine (HP.out.p _).mono ?_; rintro e w' ⟨rfl, rfl⟩)
    | (go_at_call 43; refine (HP.out.q _).mono ?_; rintro e w' ⟨rfl, rfl⟩))
  go_ret
  refine ⟨str_of' ?_, ?_⟩
  · first | rfl | (simp only [← app_data]; done) | (simp only [← app_data]; rfl) | (simp only [app_data, List.append_assoc, List.cons_append, List.nil_append])
  exact below_quiet _ _ _ _ ((below_box _ _).trans (HB1.out.mono (by simp)))
set_option maxRecDepth 100000 in
set_option maxHeartbeats 4000000 in
theorem moved_11 (s ix c d n ln x y z : Int) (h4 pr : List UInt8) (HP : Hid (OpParts c x y z 1 1)) (HG : Hid (OpGives c x y z 1 1)) (HH4 : Hid (Gives 46 #[.int .u16 n, .int .i64 4] (.string ⟨h4.toArray⟩))) (h4l : h4.length ≤ 8) (HPR : Hid (Gives 44 #[.agg #[.int .i64 s, .int .i64 ix, .int .u8 c, .int .u8 d, .int .u16 n, .int .i64 ln], .int .i64 1] (.string ⟨pr.toArray⟩))) (prl : pr.length ≤ 8) :
    Gives 62 #[.agg #[.int .i64 s, .int .i64 ix, .int .u8 c, .int .u8 d, .int .u16 n, .int .i64 ln]] (.string ⟨([108, 100, 32] ++ [97] ++ [44] ++ [40] ++ pr ++ [41]).toArray⟩) := by
  intro w
  have sz0 : ¬ 9223372036854775807 < 1 + pr.length := by omega
  have sz1 : ¬ 9223372036854775807 < 1 + pr.length + 1 := by omega
  go_enter Try.func62, Try.ntmps62
  go_wp2_with (first
    | (go_at_call 45; refine (HP.out.p _).mono ?_; rintro e w' ⟨rfl, rfl⟩)
    | (go_at_call 43; refine (HP.out.q _).mono ?_; rintro e w' ⟨rfl, rfl⟩)
    | (go_at_call 46; refine (HH4.out _).mono ?_; rintro e w1 ⟨rfl, hb1⟩; have HB := Lib.hid ((Blk.new w 26 [.int .i64 s, .int .i64 ix, .int .u8 c, .int .u8 d, .int .u16 n, .int .i64 ln]).below_ hb1); obtain ⟨k0, k1, k2, k3, k4, k5⟩ := cells6 HB.out; have c0 := HB.out.cell 0; have c1 := HB.out.cell 1; have c2 := HB.out.cell 2; have c3 := HB.out.cell 3; have c4 := HB.out.cell 4; have c5 := HB.out.cell 5;  have HB1 := Lib.hid hb1; clear hb1))
  refine wp_region_quiet_below (by kernel_rfl) (by kernel_rfl) ?_
  repeat (quiet_step (first | (go_at_call 25; exact HG.out.x.q) | (go_at_call 39; exact HG.out.y.q) | (go_at_call 22; exact HG.out.z.q) | (go_at_call 45; exact HG.out.p.q) | (go_at_call 43; exact HG.out.q.q) | (go_at_call 44; exact HPR.out.q)))
  refine wpQuiet_nil ?_
  intro _ hwq
  obtain ⟨⟨dq, osq⟩, hwr⟩ := hwq
  subst hwr
  go_wp2_with (first
    | (go_at_call 45; refine (HP.out.p _).mono ?_; rintro e w' ⟨rfl, rfl⟩)
    | (go_at_call 43; refine (HP.out.q _).mono ?_; rintro e w' ⟨rfl, rfl⟩))
  go_ret
  refine ⟨str_of' ?_, ?_⟩
  · first | rfl | (simp only [← app_data]; done) | (simp only [← app_data]; rfl) | (simp only [app_data, List.append_assoc, List.cons_append, List.nil_append])
  exact below_quiet _ _ _ _ ((below_box _ _).trans (HB1.out.mono (by simp)))
set_option maxRecDepth 100000 in
set_option maxHeartbeats 4000000 in
theorem moved_20 (s ix c d n ln x y z : Int) (h4 hl : List UInt8) (HP : Hid (OpParts c x y z 2 0)) (HG : Hid (OpGives c x y z 2 0)) (HH4 : Hid (Gives 46 #[.int .u16 n, .int .i64 4] (.string ⟨h4.toArray⟩))) (h4l : h4.length ≤ 8) (HHL : Hid (Gives 59 #[.agg #[.int .i64 s, .int .i64 ix, .int .u8 c, .int .u8 d, .int .u16 n, .int .i64 ln]] (.string ⟨hl.toArray⟩))) (hll : hl.length ≤ 8) :
    Gives 62 #[.agg #[.int .i64 s, .int .i64 ix, .int .u8 c, .int .u8 d, .int .u16 n, .int .i64 ln]] (.string ⟨([108, 100, 32] ++ [40] ++ h4 ++ [41] ++ [44] ++ hl).toArray⟩) := by
  intro w
  go_enter Try.func62, Try.ntmps62
  go_wp2_with (first
    | (go_at_call 45; refine (HP.out.p _).mono ?_; rintro e w' ⟨rfl, rfl⟩)
    | (go_at_call 43; refine (HP.out.q _).mono ?_; rintro e w' ⟨rfl, rfl⟩)
    | (go_at_call 46; refine (HH4.out _).mono ?_; rintro e w1 ⟨rfl, hb1⟩; have HB := Lib.hid ((Blk.new w 26 [.int .i64 s, .int .i64 ix, .int .u8 c, .int .u8 d, .int .u16 n, .int .i64 ln]).below_ hb1); obtain ⟨k0, k1, k2, k3, k4, k5⟩ := cells6 HB.out; have c0 := HB.out.cell 0; have c1 := HB.out.cell 1; have c2 := HB.out.cell 2; have c3 := HB.out.cell 3; have c4 := HB.out.cell 4; have c5 := HB.out.cell 5;  have HB1 := Lib.hid hb1; clear hb1)
    | (go_at_call 59; refine (HHL.out _).mono ?_; rintro e w2 ⟨rfl, hb2⟩; have HC := Lib.hid (HB.out.below_ hb2); clear c0 c1 c2 c3 c4 c5; have f0 := HC.out.cell 0; have f1 := HC.out.cell 1; have f2 := HC.out.cell 2; have f3 := HC.out.cell 3; have f4 := HC.out.cell 4; have f5 := HC.out.cell 5;  have HB2 := Lib.hid hb2; clear hb2))
  go_ret
  refine ⟨str_of' ?_, ?_⟩
  · first | rfl | (simp only [← app_data]; done) | (simp only [← app_data]; rfl) | (simp only [app_data, List.append_assoc, List.cons_append, List.nil_append])
  exact ((below_box _ _).trans (HB1.out.mono (by simp))).trans (HB2.out.mono (by have := HB1.out.size; simp at this; omega))
set_option maxRecDepth 100000 in
set_option maxHeartbeats 4000000 in
theorem moved_21 (s ix c d n ln x y z : Int) (h4 hl : List UInt8) (HP : Hid (OpParts c x y z 2 1)) (HG : Hid (OpGives c x y z 2 1)) (HH4 : Hid (Gives 46 #[.int .u16 n, .int .i64 4] (.string ⟨h4.toArray⟩))) (h4l : h4.length ≤ 8) (HHL : Hid (Gives 59 #[.agg #[.int .i64 s, .int .i64 ix, .int .u8 c, .int .u8 d, .int .u16 n, .int .i64 ln]] (.string ⟨hl.toArray⟩))) (hll : hl.length ≤ 8) :
    Gives 62 #[.agg #[.int .i64 s, .int .i64 ix, .int .u8 c, .int .u8 d, .int .u16 n, .int .i64 ln]] (.string ⟨([108, 100, 32] ++ hl ++ [44] ++ [40] ++ h4 ++ [41]).toArray⟩) := by
  intro w
  go_enter Try.func62, Try.ntmps62
  go_wp2_with (first
    | (go_at_call 45; refine (HP.out.p _).mono ?_; rintro e w' ⟨rfl, rfl⟩)
    | (go_at_call 43; refine (HP.out.q _).mono ?_; rintro e w' ⟨rfl, rfl⟩)
    | (go_at_call 46; refine (HH4.out _).mono ?_; rintro e w1 ⟨rfl, hb1⟩; have HB := Lib.hid ((Blk.new w 26 [.int .i64 s, .int .i64 ix, .int .u8 c, .int .u8 d, .int .u16 n, .int .i64 ln]).below_ hb1); obtain ⟨k0, k1, k2, k3, k4, k5⟩ := cells6 HB.out; have c0 := HB.out.cell 0; have c1 := HB.out.cell 1; have c2 := HB.out.cell 2; have c3 := HB.out.cell 3; have c4 := HB.out.cell 4; have c5 := HB.out.cell 5;  have HB1 := Lib.hid hb1; clear hb1)
    | (go_at_call 59; refine (HHL.out _).mono ?_; rintro e w2 ⟨rfl, hb2⟩; have HC := Lib.hid (HB.out.below_ hb2); clear c0 c1 c2 c3 c4 c5; have f0 := HC.out.cell 0; have f1 := HC.out.cell 1; have f2 := HC.out.cell 2; have f3 := HC.out.cell 3; have f4 := HC.out.cell 4; have f5 := HC.out.cell 5;  have HB2 := Lib.hid hb2; clear hb2))
  go_ret
  refine ⟨str_of' ?_, ?_⟩
  · first | rfl | (simp only [← app_data]; done) | (simp only [← app_data]; rfl) | (simp only [app_data, List.append_assoc, List.cons_append, List.nil_append])
  exact ((below_box _ _).trans (HB1.out.mono (by simp))).trans (HB2.out.mono (by have := HB1.out.size; simp at this; omega))
set_option maxRecDepth 100000 in
set_option maxHeartbeats 4000000 in
theorem moved_30 (s ix c d n ln x y z : Int) (h4 : List UInt8) (HP : Hid (OpParts c x y z 3 0)) (HG : Hid (OpGives c x y z 3 0)) (HH4 : Hid (Gives 46 #[.int .u16 n, .int .i64 4] (.string ⟨h4.toArray⟩))) (h4l : h4.length ≤ 8) :
    Gives 62 #[.agg #[.int .i64 s, .int .i64 ix, .int .u8 c, .int .u8 d, .int .u16 n, .int .i64 ln]] (.string ⟨([108, 100, 32] ++ [40] ++ h4 ++ [41] ++ [44] ++ [97]).toArray⟩) := by
  intro w
  go_enter Try.func62, Try.ntmps62
  go_wp2_with (first
    | (go_at_call 45; refine (HP.out.p _).mono ?_; rintro e w' ⟨rfl, rfl⟩)
    | (go_at_call 43; refine (HP.out.q _).mono ?_; rintro e w' ⟨rfl, rfl⟩)
    | (go_at_call 46; refine (HH4.out _).mono ?_; rintro e w1 ⟨rfl, hb1⟩; have HB := Lib.hid ((Blk.new w 26 [.int .i64 s, .int .i64 ix, .int .u8 c, .int .u8 d, .int .u16 n, .int .i64 ln]).below_ hb1); obtain ⟨k0, k1, k2, k3, k4, k5⟩ := cells6 HB.out; have c0 := HB.out.cell 0; have c1 := HB.out.cell 1; have c2 := HB.out.cell 2; have c3 := HB.out.cell 3; have c4 := HB.out.cell 4; have c5 := HB.out.cell 5;  have HB1 := Lib.hid hb1; clear hb1))
  go_ret
  refine ⟨str_of' ?_, ?_⟩
  · first | rfl | (simp only [← app_data]; done) | (simp only [← app_data]; rfl) | (simp only [app_data, List.append_assoc, List.cons_append, List.nil_append])
  exact (below_box _ _).trans (HB1.out.mono (by simp))
set_option maxRecDepth 100000 in
set_option maxHeartbeats 4000000 in
theorem moved_31 (s ix c d n ln x y z : Int) (h4 : List UInt8) (HP : Hid (OpParts c x y z 3 1)) (HG : Hid (OpGives c x y z 3 1)) (HH4 : Hid (Gives 46 #[.int .u16 n, .int .i64 4] (.string ⟨h4.toArray⟩))) (h4l : h4.length ≤ 8) :
    Gives 62 #[.agg #[.int .i64 s, .int .i64 ix, .int .u8 c, .int .u8 d, .int .u16 n, .int .i64 ln]] (.string ⟨([108, 100, 32] ++ [97] ++ [44] ++ [40] ++ h4 ++ [41]).toArray⟩) := by
  intro w
  go_enter Try.func62, Try.ntmps62
  go_wp2_with (first
    | (go_at_call 45; refine (HP.out.p _).mono ?_; rintro e w' ⟨rfl, rfl⟩)
    | (go_at_call 43; refine (HP.out.q _).mono ?_; rintro e w' ⟨rfl, rfl⟩)
    | (go_at_call 46; refine (HH4.out _).mono ?_; rintro e w1 ⟨rfl, hb1⟩; have HB := Lib.hid ((Blk.new w 26 [.int .i64 s, .int .i64 ix, .int .u8 c, .int .u8 d, .int .u16 n, .int .i64 ln]).below_ hb1); obtain ⟨k0, k1, k2, k3, k4, k5⟩ := cells6 HB.out; have c0 := HB.out.cell 0; have c1 := HB.out.cell 1; have c2 := HB.out.cell 2; have c3 := HB.out.cell 3; have c4 := HB.out.cell 4; have c5 := HB.out.cell 5;  have HB1 := Lib.hid hb1; clear hb1))
  go_ret
  refine ⟨str_of' ?_, ?_⟩
  · first | rfl | (simp only [← app_data]; done) | (simp only [← app_data]; rfl) | (simp only [app_data, List.append_assoc, List.cons_append, List.nil_append])
  exact (below_box _ _).trans (HB1.out.mono (by simp))
set_option maxRecDepth 100000 in
set_option maxHeartbeats 4000000 in
theorem bits_0 (s ix c d n ln y z p q : Int) (y0 : 0 ≤ y) (y1 : y < 8) (tn m : List UInt8) (ml : m.length ≤ 16) (HP : Hid (OpParts c 0 y z p q)) (HG : Hid (OpGives c 0 y z p q)) (HTN : Hid (Gives 41 #[.int .i64 y] (.string ⟨tn.toArray⟩))) (tnl : tn.length ≤ 8) :
    Gives 20 #[.agg #[.int .i64 s, .int .i64 ix, .int .u8 c, .int .u8 d, .int .u16 n, .int .i64 ln], .string ⟨m.toArray⟩] (.string ⟨(tn ++ [32] ++ m).toArray⟩) := by
  intro w
  obtain ⟨k0, k1, k2, k3, k4, k5⟩ := cells6 (Blk.new w 26 [.int .i64 s, .int .i64 ix, .int .u8 c, .int .u8 d, .int .u16 n, .int .i64 ln])
  have e0 := dg_of y y0 (by omega)
  have hw : IntKind.i64.wrap (y + 1) = y + 1 := by rw [IntKind.wrap_i64]; omega
  have ya : 0 ≤ y + 1 := by omega
  have yb : y + 1 ≤ 16 := by omega
  have yc : y ≤ y + 1 := by omega
  go_enter Try.func20, Try.ntmps20
  go_wp2_with fail
  refine wp_region_quiet_below (by kernel_rfl) (by kernel_rfl) ?_
  repeat (quiet_step (first | (go_at_call 25; exact HG.out.x.q) | (go_at_call 39; exact HG.out.y.q) | (go_at_call 22; exact HG.out.z.q) | (go_at_call 45; exact HG.out.p.q) | (go_at_call 43; exact HG.out.q.q)))
  refine wpQuiet_nil ?_
  intro _ hwq
  obtain ⟨⟨dq, osq⟩, hwr⟩ := hwq
  subst hwr
  go_wp2_with (first
    | (go_at_call 25; refine (HP.out.x _).mono ?_; rintro e w' ⟨rfl, rfl⟩)
    | (go_at_call 39; refine (HP.out.y _).mono ?_; rintro e w' ⟨rfl, rfl⟩)
    | (go_at_call 41; refine (HTN.out _).mono ?_; rintro e w1 ⟨rfl, hb1⟩))
  go_ret
  refine ⟨str_of' ?_, ?_⟩
  · first | rfl | (simp only [← app_data]; done) | (simp only [← app_data]; rfl)
  exact (below_quiet _ _ _ _ (below_box _ _)).trans (hb1.mono (below_quiet _ _ _ _ (below_box _ _)).size)
set_option maxRecDepth 100000 in
set_option maxHeartbeats 4000000 in
theorem bits_1 (s ix c d n ln y z p q : Int) (y0 : 0 ≤ y) (y1 : y < 8) (m : List UInt8) (ml : m.length ≤ 16) (HP : Hid (OpParts c 1 y z p q)) (HG : Hid (OpGives c 1 y z p q)) :
    Gives 20 #[.agg #[.int .i64 s, .int .i64 ix, .int .u8 c, .int .u8 d, .int .u16 n, .int .i64 ln], .string ⟨m.toArray⟩] (.string ⟨([98, 105, 116, 32] ++ [dg y] ++ [44] ++ m).toArray⟩) := by
  intro w
  obtain ⟨k0, k1, k2, k3, k4, k5⟩ := cells6 (Blk.new w 26 [.int .i64 s, .int .i64 ix, .int .u8 c, .int .u8 d, .int .u16 n, .int .i64 ln])
  have e0 := dg_of y y0 (by omega)
  have hw : IntKind.i64.wrap (y + 1) = y + 1 := by rw [IntKind.wrap_i64]; omega
  have ya : 0 ≤ y + 1 := by omega
  have yb : y + 1 ≤ 16 := by omega
  have yc : y ≤ y + 1 := by omega
  go_enter Try.func20, Try.ntmps20
  go_wp2_with fail
  refine wp_region_quiet_below (by kernel_rfl) (by kernel_rfl) ?_
  repeat (quiet_step (first | (go_at_call 25; exact HG.out.x.q) | (go_at_call 39; exact HG.out.y.q) | (go_at_call 22; exact HG.out.z.q) | (go_at_call 45; exact HG.out.p.q) | (go_at_call 43; exact HG.out.q.q)))
  refine wpQuiet_nil ?_
  intro _ hwq
  obtain ⟨⟨dq, osq⟩, hwr⟩ := hwq
  subst hwr
  go_wp2_with (first
    | (go_at_call 25; refine (HP.out.x _).mono ?_; rintro e w' ⟨rfl, rfl⟩)
    | (go_at_call 39; refine (HP.out.y _).mono ?_; rintro e w' ⟨rfl, rfl⟩))
  go_ret
  refine ⟨str_of' ?_, ?_⟩
  · first | rfl | (simp only [← app_data]; done) | (simp only [← app_data]; rfl)
  exact below_quiet _ _ _ _ (below_box _ _)
set_option maxRecDepth 100000 in
set_option maxHeartbeats 4000000 in
theorem bits_2 (s ix c d n ln y z p q : Int) (y0 : 0 ≤ y) (y1 : y < 8) (m : List UInt8) (ml : m.length ≤ 16) (HP : Hid (OpParts c 2 y z p q)) (HG : Hid (OpGives c 2 y z p q)) :
    Gives 20 #[.agg #[.int .i64 s, .int .i64 ix, .int .u8 c, .int .u8 d, .int .u16 n, .int .i64 ln], .string ⟨m.toArray⟩] (.string ⟨([114, 101, 115, 32] ++ [dg y] ++ [44] ++ m).toArray⟩) := by
  intro w
  obtain ⟨k0, k1, k2, k3, k4, k5⟩ := cells6 (Blk.new w 26 [.int .i64 s, .int .i64 ix, .int .u8 c, .int .u8 d, .int .u16 n, .int .i64 ln])
  have e0 := dg_of y y0 (by omega)
  have hw : IntKind.i64.wrap (y + 1) = y + 1 := by rw [IntKind.wrap_i64]; omega
  have ya : 0 ≤ y + 1 := by omega
  have yb : y + 1 ≤ 16 := by omega
  have yc : y ≤ y + 1 := by omega
  go_enter Try.func20, Try.ntmps20
  go_wp2_with fail
  refine wp_region_quiet_below (by kernel_rfl) (by kernel_rfl) ?_
  repeat (quiet_step (first | (go_at_call 25; exact HG.out.x.q) | (go_at_call 39; exact HG.out.y.q) | (go_at_call 22; exact HG.out.z.q) | (go_at_call 45; exact HG.out.p.q) | (go_at_call 43; exact HG.out.q.q)))
  refine wpQuiet_nil ?_
  intro _ hwq
  obtain ⟨⟨dq, osq⟩, hwr⟩ := hwq
  subst hwr
  go_wp2_with (first
    | (go_at_call 25; refine (HP.out.x _).mono ?_; rintro e w' ⟨rfl, rfl⟩)
    | (go_at_call 39; refine (HP.out.y _).mono ?_; rintro e w' ⟨rfl, rfl⟩))
  go_ret
  refine ⟨str_of' ?_, ?_⟩
  · first | rfl | (simp only [← app_data]; done) | (simp only [← app_data]; rfl)
  exact below_quiet _ _ _ _ (below_box _ _)
set_option maxRecDepth 100000 in
set_option maxHeartbeats 4000000 in
theorem bits_3 (s ix c d n ln y z p q : Int) (y0 : 0 ≤ y) (y1 : y < 8) (m : List UInt8) (ml : m.length ≤ 16) (HP : Hid (OpParts c 3 y z p q)) (HG : Hid (OpGives c 3 y z p q)) :
    Gives 20 #[.agg #[.int .i64 s, .int .i64 ix, .int .u8 c, .int .u8 d, .int .u16 n, .int .i64 ln], .string ⟨m.toArray⟩] (.string ⟨([115, 101, 116, 32] ++ [dg y] ++ [44] ++ m).toArray⟩) := by
  intro w
  obtain ⟨k0, k1, k2, k3, k4, k5⟩ := cells6 (Blk.new w 26 [.int .i64 s, .int .i64 ix, .int .u8 c, .int .u8 d, .int .u16 n, .int .i64 ln])
  have e0 := dg_of y y0 (by omega)
  have hw : IntKind.i64.wrap (y + 1) = y + 1 := by rw [IntKind.wrap_i64]; omega
  have ya : 0 ≤ y + 1 := by omega
  have yb : y + 1 ≤ 16 := by omega
  have yc : y ≤ y + 1 := by omega
  go_enter Try.func20, Try.ntmps20
  go_wp2_with fail
  refine wp_region_quiet_below (by kernel_rfl) (by kernel_rfl) ?_
  repeat (quiet_step (first | (go_at_call 25; exact HG.out.x.q) | (go_at_call 39; exact HG.out.y.q) | (go_at_call 22; exact HG.out.z.q) | (go_at_call 45; exact HG.out.p.q) | (go_at_call 43; exact HG.out.q.q)))
  refine wpQuiet_nil ?_
  intro _ hwq
  obtain ⟨⟨dq, osq⟩, hwr⟩ := hwq
  subst hwr
  go_wp2_with (first
    | (go_at_call 25; refine (HP.out.x _).mono ?_; rintro e w' ⟨rfl, rfl⟩)
    | (go_at_call 39; refine (HP.out.y _).mono ?_; rintro e w' ⟨rfl, rfl⟩))
  go_ret
  refine ⟨str_of' ?_, ?_⟩
  · first | rfl | (simp only [← app_data]; done) | (simp only [← app_data]; rfl)
  exact below_quiet _ _ _ _ (below_box _ _)
set_option maxRecDepth 100000 in
set_option maxHeartbeats 4000000 in
theorem plain_0 (s ix c d n ln pc cdk : Int) (y z p q : Int) (fi : List UInt8) (HP : Hid (OpParts c 0 y z p q)) (HG : Hid (OpGives c 0 y z p q)) (HFI : Hid (Gives 48 #[.agg #[.int .i64 s, .int .i64 ix, .int .u8 c, .int .u8 d, .int .u16 n, .int .i64 ln], .int .u16 pc] (.string ⟨fi.toArray⟩))) (fil : fi.length ≤ 40) :
    Gives 27 #[.agg #[.int .i64 s, .int .i64 ix, .int .u8 c, .int .u8 d, .int .u16 n, .int .i64 ln], .int .u16 pc] (.string ⟨(fi).toArray⟩) := by
  intro w
  go_enter Try.func27, Try.ntmps27
  go_wp2_with (first
    | (go_at_call 25; refine (HP.out.x _).mono ?_; rintro e w' ⟨rfl, rfl⟩)
    | (go_at_call 39; refine (HP.out.y _).mono ?_; rintro e w' ⟨rfl, rfl⟩)
    | (go_at_call 22; refine (HP.out.z _).mono ?_; rintro e w' ⟨rfl, rfl⟩)
    | (go_at_call 45; refine (HP.out.p _).mono ?_; rintro e w' ⟨rfl, rfl⟩)
    | (go_at_call 43; refine (HP.out.q _).mono ?_; rintro e w' ⟨rfl, rfl⟩)
    | (go_at_call 48; refine (HFI.out _).mono ?_; rintro e w1 ⟨rfl, hb1⟩))
  go_ret
  refine ⟨str_of' ?_, ?_⟩
  · first | rfl | (simp only [← app_data]; done) | (simp only [← app_data]; rfl)
  first | exact below_box _ _ | exact (below_box _ _).trans (hb1.mono (by simp))
set_option maxRecDepth 100000 in
set_option maxHeartbeats 4000000 in
theorem plain_1h (s ix c d n ln pc cdk : Int) (y z p q : Int)  (HP : Hid (OpParts 118 1 y z p q)) (HG : Hid (OpGives 118 1 y z p q)) :
    Gives 27 #[.agg #[.int .i64 s, .int .i64 ix, .int .u8 118, .int .u8 d, .int .u16 n, .int .i64 ln], .int .u16 pc] (.string ⟨([104, 97, 108, 116]).toArray⟩) := by
  intro w
  go_enter Try.func27, Try.ntmps27
  go_wp2_with (first
    | (go_at_call 25; refine (HP.out.x _).mono ?_; rintro e w' ⟨rfl, rfl⟩)
    | (go_at_call 39; refine (HP.out.y _).mono ?_; rintro e w' ⟨rfl, rfl⟩)
    | (go_at_call 22; refine (HP.out.z _).mono ?_; rintro e w' ⟨rfl, rfl⟩)
    | (go_at_call 45; refine (HP.out.p _).mono ?_; rintro e w' ⟨rfl, rfl⟩)
    | (go_at_call 43; refine (HP.out.q _).mono ?_; rintro e w' ⟨rfl, rfl⟩))
  go_ret
  refine ⟨str_of' ?_, ?_⟩
  · first | rfl | (simp only [← app_data]; done) | (simp only [← app_data]; rfl)
  first | exact below_box _ _ | exact (below_box _ _).trans (hb1.mono (by simp))
set_option maxRecDepth 100000 in
set_option maxHeartbeats 4000000 in
theorem plain_1 (s ix c d n ln pc cdk : Int) (y z p q : Int) (ry rz : List UInt8) (HP : Hid (OpParts c 1 y z p q)) (HG : Hid (OpGives c 1 y z p q)) (hh : (c == 118) = false) (HRY : Hid (Gives 21 #[.agg #[.int .i64 s, .int .i64 ix, .int .u8 c, .int .u8 d, .int .u16 n, .int .i64 ln], .int .i64 y] (.string ⟨ry.toArray⟩))) (ryl : ry.length ≤ 16) (HRZ : Hid (Gives 21 #[.agg #[.int .i64 s, .int .i64 ix, .int .u8 c, .int .u8 d, .int .u16 n, .int .i64 ln], .int .i64 z] (.string ⟨rz.toArray⟩))) (rzl : rz.length ≤ 16) :
    Gives 27 #[.agg #[.int .i64 s, .int .i64 ix, .int .u8 c, .int .u8 d, .int .u16 n, .int .i64 ln], .int .u16 pc] (.string ⟨([108, 100, 32] ++ ry ++ [44] ++ rz).toArray⟩) := by
  intro w
  have sz0 : ¬ 9223372036854775807 < 3 + ry.length := by omega
  have sz1 : ¬ 9223372036854775807 < 3 + ry.length + 1 := by omega
  have sz2 : ¬ 9223372036854775807 < 3 + ry.length + 1 + rz.length := by omega
  obtain ⟨k0, k1, k2, k3, k4, k5⟩ := cells6 (Blk.new w 26 [.int .i64 s, .int .i64 ix, .int .u8 c, .int .u8 d, .int .u16 n, .int .i64 ln])
  go_enter Try.func27, Try.ntmps27
  go_wp2_with (first
    | (go_at_call 25; refine (HP.out.x _).mono ?_; rintro e w' ⟨rfl, rfl⟩)
    | (go_at_call 39; refine (HP.out.y _).mono ?_; rintro e w' ⟨rfl, rfl⟩)
    | (go_at_call 22; refine (HP.out.z _).mono ?_; rintro e w' ⟨rfl, rfl⟩)
    | (go_at_call 45; refine (HP.out.p _).mono ?_; rintro e w' ⟨rfl, rfl⟩)
    | (go_at_call 43; refine (HP.out.q _).mono ?_; rintro e w' ⟨rfl, rfl⟩)
    | (go_at_call 21; refine (HRY.out _).mono ?_; rintro e w1 ⟨rfl, hb1⟩)
    | (go_at_call 21; refine (HRZ.out _).mono ?_; rintro e w1 ⟨rfl, hb1⟩))
  refine wp_region_quiet_below (by kernel_rfl) (by kernel_rfl) ?_
  repeat (quiet_step (first | (go_at_call 25; exact HG.out.x.q) | (go_at_call 39; exact HG.out.y.q) | (go_at_call 22; exact HG.out.z.q) | (go_at_call 45; exact HG.out.p.q) | (go_at_call 43; exact HG.out.q.q) | (go_at_call_of 21 (Value.int .i64 y); exact HRY.out.q) | (go_at_call_of 21 (Value.int .i64 z); exact HRZ.out.q)))
  refine wpQuiet_nil ?_
  intro _ hwq
  obtain ⟨⟨dq, osq⟩, hwr⟩ := hwq
  subst hwr
  go_wp2
  go_ret
  refine ⟨str_of' ?_, ?_⟩
  · first | rfl | (simp only [← app_data]; done) | (simp only [← app_data]; rfl)
  exact below_quiet _ _ _ _ (below_box _ _)
set_option maxRecDepth 100000 in
set_option maxHeartbeats 4000000 in
theorem plain_2 (s ix c d n ln pc cdk : Int) (y z p q : Int) (op rz : List UInt8) (HP : Hid (OpParts c 2 y z p q)) (HG : Hid (OpGives c 2 y z p q)) (HOP : Hid (Gives 49 #[.int .i64 y] (.string ⟨op.toArray⟩))) (opl : op.length ≤ 8) (HRZ : Hid (Gives 21 #[.agg #[.int .i64 s, .int .i64 ix, .int .u8 c, .int .u8 d, .int .u16 n, .int .i64 ln], .int .i64 z] (.string ⟨rz.toArray⟩))) (rzl : rz.length ≤ 16) :
    Gives 27 #[.agg #[.int .i64 s, .int .i64 ix, .int .u8 c, .int .u8 d, .int .u16 n, .int .i64 ln], .int .u16 pc] (.string ⟨(op ++ rz).toArray⟩) := by
  intro w
  have sz0 : ¬ 9223372036854775807 < op.length + rz.length := by omega
  obtain ⟨k0, k1, k2, k3, k4, k5⟩ := cells6 (Blk.new w 26 [.int .i64 s, .int .i64 ix, .int .u8 c, .int .u8 d, .int .u16 n, .int .i64 ln])
  go_enter Try.func27, Try.ntmps27
  go_wp2_with (first
    | (go_at_call 25; refine (HP.out.x _).mono ?_; rintro e w' ⟨rfl, rfl⟩)
    | (go_at_call 39; refine (HP.out.y _).mono ?_; rintro e w' ⟨rfl, rfl⟩)
    | (go_at_call 22; refine (HP.out.z _).mono ?_; rintro e w' ⟨rfl, rfl⟩)
    | (go_at_call 45; refine (HP.out.p _).mono ?_; rintro e w' ⟨rfl, rfl⟩)
    | (go_at_call 43; refine (HP.out.q _).mono ?_; rintro e w' ⟨rfl, rfl⟩)
    | (go_at_call 49; refine (HOP.out _).mono ?_; rintro e w1 ⟨rfl, hb1⟩)
    | (go_at_call 21; refine (HRZ.out _).mono ?_; rintro e w1 ⟨rfl, hb1⟩))
  refine wp_region_quiet_below (by kernel_rfl) (by kernel_rfl) ?_
  repeat (quiet_step (first | (go_at_call 25; exact HG.out.x.q) | (go_at_call 39; exact HG.out.y.q) | (go_at_call 22; exact HG.out.z.q) | (go_at_call 45; exact HG.out.p.q) | (go_at_call 43; exact HG.out.q.q) | (go_at_call 49; exact HOP.out.q) | (go_at_call 21; exact HRZ.out.q)))
  refine wpQuiet_nil ?_
  intro _ hwq
  obtain ⟨⟨dq, osq⟩, hwr⟩ := hwq
  subst hwr
  go_wp2
  go_ret
  refine ⟨str_of' ?_, ?_⟩
  · first | rfl | (simp only [← app_data]; done) | (simp only [← app_data]; rfl)
  exact below_quiet _ _ _ _ (below_box _ _)
set_option maxRecDepth 100000 in
set_option maxHeartbeats 4000000 in
theorem plain_3 (s ix c d n ln pc cdk : Int) (y z p q : Int) (la : List UInt8) (HP : Hid (OpParts c 3 y z p q)) (HG : Hid (OpGives c 3 y z p q)) (HLA : Hid (Gives 50 #[.agg #[.int .i64 s, .int .i64 ix, .int .u8 c, .int .u8 d, .int .u16 n, .int .i64 ln]] (.string ⟨la.toArray⟩))) (lal : la.length ≤ 40) :
    Gives 27 #[.agg #[.int .i64 s, .int .i64 ix, .int .u8 c, .int .u8 d, .int .u16 n, .int .i64 ln], .int .u16 pc] (.string ⟨(la).toArray⟩) := by
  intro w
  go_enter Try.func27, Try.ntmps27
  go_wp2_with (first
    | (go_at_call 25; refine (HP.out.x _).mono ?_; rintro e w' ⟨rfl, rfl⟩)
    | (go_at_call 39; refine (HP.out.y _).mono ?_; rintro e w' ⟨rfl, rfl⟩)
    | (go_at_call 22; refine (HP.out.z _).mono ?_; rintro e w' ⟨rfl, rfl⟩)
    | (go_at_call 45; refine (HP.out.p _).mono ?_; rintro e w' ⟨rfl, rfl⟩)
    | (go_at_call 43; refine (HP.out.q _).mono ?_; rintro e w' ⟨rfl, rfl⟩)
    | (go_at_call 50; refine (HLA.out _).mono ?_; rintro e w1 ⟨rfl, hb1⟩))
  go_ret
  refine ⟨str_of' ?_, ?_⟩
  · first | rfl | (simp only [← app_data]; done) | (simp only [← app_data]; rfl)
  first | exact below_box _ _ | exact (below_box _ _).trans (hb1.mono (by simp))
end Go.Proofs.Ytjkakmmhbciilaa
