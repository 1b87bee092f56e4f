/- op: more, Show, branch by branch. (printed by wip/gen/gen_opsh.py) -/
import Derived.Test.YtjkakmmhbciilaaOpFD
namespace Go.Proofs.Ytjkakmmhbciilaa
set_option linter.unusedSimpArgs false
set_option linter.unusedVariables false
open Go.RowKit Go.Sort
set_option maxRecDepth 100000 in
set_option maxHeartbeats 4000000 in
theorem more_a (s ix c d n ln pc : Int) (y z p q : Int) (HP : Hid (OpParts c 2 y z p q)) (HG : Hid (OpGives c 2 y z p q)) (y4 : 4 ≤ y) (y8 : y < 8) (z0 : 0 ≤ z) (z3 : z ≤ 3) (it : List UInt8) (hit : ∀ u : World, (Instr.index 58 (.agg #[.string ⟨#[108, 100, 105]⟩, .string ⟨#[99, 112, 105]⟩, .string ⟨#[105, 110, 105]⟩, .string ⟨#[111, 117, 116, 105]⟩, .string ⟨#[108, 100, 100]⟩, .string ⟨#[99, 112, 100]⟩, .string ⟨#[105, 110, 100]⟩, .string ⟨#[111, 117, 116, 100]⟩, .string ⟨#[108, 100, 105, 114]⟩, .string ⟨#[99, 112, 105, 114]⟩, .string ⟨#[105, 110, 105, 114]⟩, .string ⟨#[111, 116, 105, 114]⟩, .string ⟨#[108, 100, 100, 114]⟩, .string ⟨#[99, 112, 100, 114]⟩, .string ⟨#[105, 110, 100, 114]⟩, .string ⟨#[111, 116, 100, 114]⟩]) (.int .i64 (4 * (y - 4) + z))).run Try.prog u = .ok (.string ⟨it.toArray⟩) u) :
    Gives 23 #[.agg #[.int .i64 s, .int .i64 ix, .int .u8 c, .int .u8 d, .int .u16 n, .int .i64 ln]] (.string ⟨(it).toArray⟩) := by
  intro w
  have HB0 := Lib.hid (Blk.new w 26 [.int .i64 s, .int .i64 ix, .int .u8 c, .int .u8 d, .int .u16 n, .int .i64 ln])
  obtain ⟨k0, k1, k2, k3, k4, k5⟩ := cells6 HB0.out
  go_enter Try.func23, Try.ntmps23
  have w1 : IntKind.i64.wrap (y - 4) = y - 4 := by rw [IntKind.wrap_i64]; omega
  have w2 : IntKind.i64.wrap (4 * (y - 4)) = 4 * (y - 4) := by rw [IntKind.wrap_i64]; omega
  have w3 : IntKind.i64.wrap (4 * (y - 4) + z) = 4 * (y - 4) + z := by rw [IntKind.wrap_i64]; omega
  go_wp2_with (first
    | (go_at_call 25; refine (HP.out.x _).mono ?_; rintro e w' ⟨rfl, rfl⟩)
    | (go_at_call 39; refine (HP.out.y _).mono ?_; rintro e w' ⟨rfl, rfl⟩)
    | (go_at_call 22; refine (HP.out.z _).mono ?_; rintro e w' ⟨rfl, rfl⟩))
  go_ret
  refine ⟨str_of' ?_, ?_⟩
  · first | rfl | (simp only [← app_data]; done) | (simp only [← app_data]; rfl) | (simp only [app_data, List.append_assoc, List.cons_append, List.nil_append])
  exact below_box _ _
set_option maxRecDepth 100000 in
set_option maxHeartbeats 4000000 in
theorem more_b1 (s ix c d n ln pc : Int) (y z p q : Int) (HP : Hid (OpParts c 2 y z p q)) (HG : Hid (OpGives c 2 y z p q)) (y4 : ¬ 4 ≤ y) :
    Gives 23 #[.agg #[.int .i64 s, .int .i64 ix, .int .u8 c, .int .u8 d, .int .u16 n, .int .i64 ln]] (.string ⟨(([110, 111, 112] : List UInt8)).toArray⟩) := by
  intro w
  have HB0 := Lib.hid (Blk.new w 26 [.int .i64 s, .int .i64 ix, .int .u8 c, .int .u8 d, .int .u16 n, .int .i64 ln])
  obtain ⟨k0, k1, k2, k3, k4, k5⟩ := cells6 HB0.out
  go_enter Try.func23, Try.ntmps23
  go_wp2_with (first
    | (go_at_call 25; refine (HP.out.x _).mono ?_; rintro e w' ⟨rfl, rfl⟩)
    | (go_at_call 39; refine (HP.out.y _).mono ?_; rintro e w' ⟨rfl, rfl⟩)
    | (go_at_call 22; refine (HP.out.z _).mono ?_; rintro e w' ⟨rfl, rfl⟩))
  go_ret
  refine ⟨str_of' ?_, ?_⟩
  · first | rfl | (simp only [← app_data]; done) | (simp only [← app_data]; rfl) | (simp only [app_data, List.append_assoc, List.cons_append, List.nil_append])
  exact below_box _ _
set_option maxRecDepth 100000 in
set_option maxHeartbeats 4000000 in
theorem more_b2 (s ix c d n ln pc : Int) (y z p q : Int) (HP : Hid (OpParts c 2 y z p q)) (HG : Hid (OpGives c 2 y z p q)) (y4 : 4 ≤ y) (z3 : ¬ z ≤ 3) :
    Gives 23 #[.agg #[.int .i64 s, .int .i64 ix, .int .u8 c, .int .u8 d, .int .u16 n, .int .i64 ln]] (.string ⟨(([110, 111, 112] : List UInt8)).toArray⟩) := by
  intro w
  have HB0 := Lib.hid (Blk.new w 26 [.int .i64 s, .int .i64 ix, .int .u8 c, .int .u8 d, .int .u16 n, .int .i64 ln])
  obtain ⟨k0, k1, k2, k3, k4, k5⟩ := cells6 HB0.out
  go_enter Try.func23, Try.ntmps23
  go_wp2_with (first
    | (go_at_call 25; refine (HP.out.x _).mono ?_; rintro e w' ⟨rfl, rfl⟩)
    | (go_at_call 39; refine (HP.out.y _).mono ?_; rintro e w' ⟨rfl, rfl⟩)
    | (go_at_call 22; refine (HP.out.z _).mono ?_; rintro e w' ⟨rfl, rfl⟩))
  go_ret
  refine ⟨str_of' ?_, ?_⟩
  · first | rfl | (simp only [← app_data]; done) | (simp only [← app_data]; rfl) | (simp only [app_data, List.append_assoc, List.cons_append, List.nil_append])
  exact below_box _ _
set_option maxRecDepth 100000 in
set_option maxHeartbeats 4000000 in
theorem more_c0 (s ix c d n ln pc : Int) (y z p q : Int) (HP : Hid (OpParts c 0 y z p q)) (HG : Hid (OpGives c 0 y z p q)) :
    Gives 23 #[.agg #[.int .i64 s, .int .i64 ix, .int .u8 c, .int .u8 d, .int .u16 n, .int .i64 ln]] (.string ⟨(([110, 111, 112] : List UInt8)).toArray⟩) := by
  intro w
  have HB0 := Lib.hid (Blk.new w 26 [.int .i64 s, .int .i64 ix, .int .u8 c, .int .u8 d, .int .u16 n, .int .i64 ln])
  obtain ⟨k0, k1, k2, k3, k4, k5⟩ := cells6 HB0.out
  go_enter Try.func23, Try.ntmps23
  go_wp2_with (first
    | (go_at_call 25; refine (HP.out.x _).mono ?_; rintro e w' ⟨rfl, rfl⟩)
    | (go_at_call 39; refine (HP.out.y _).mono ?_; rintro e w' ⟨rfl, rfl⟩)
    | (go_at_call 22; refine (HP.out.z _).mono ?_; rintro e w' ⟨rfl, rfl⟩))
  go_ret
  refine ⟨str_of' ?_, ?_⟩
  · first | rfl | (simp only [← app_data]; done) | (simp only [← app_data]; rfl) | (simp only [app_data, List.append_assoc, List.cons_append, List.nil_append])
  exact below_box _ _
set_option maxRecDepth 100000 in
set_option maxHeartbeats 4000000 in
theorem more_c3 (s ix c d n ln pc : Int) (y z p q : Int) (HP : Hid (OpParts c 3 y z p q)) (HG : Hid (OpGives c 3 y z p q)) :
    Gives 23 #[.agg #[.int .i64 s, .int .i64 ix, .int .u8 c, .int .u8 d, .int .u16 n, .int .i64 ln]] (.string ⟨(([110, 111, 112] : List UInt8)).toArray⟩) := by
  intro w
  have HB0 := Lib.hid (Blk.new w 26 [.int .i64 s, .int .i64 ix, .int .u8 c, .int .u8 d, .int .u16 n, .int .i64 ln])
  obtain ⟨k0, k1, k2, k3, k4, k5⟩ := cells6 HB0.out
  go_enter Try.func23, Try.ntmps23
  go_wp2_with (first
    | (go_at_call 25; refine (HP.out.x _).mono ?_; rintro e w' ⟨rfl, rfl⟩)
    | (go_at_call 39; refine (HP.out.y _).mono ?_; rintro e w' ⟨rfl, rfl⟩)
    | (go_at_call 22; refine (HP.out.z _).mono ?_; rintro e w' ⟨rfl, rfl⟩))
  go_ret
  refine ⟨str_of' ?_, ?_⟩
  · first | rfl | (simp only [← app_data]; done) | (simp only [← app_data]; rfl) | (simp only [app_data, List.append_assoc, List.cons_append, List.nil_append])
  exact below_box _ _
set_option maxRecDepth 100000 in
set_option maxHeartbeats 4000000 in
theorem more_06 (s ix c d n ln pc : Int) (p q : Int) (ry : List UInt8) (HP : Hid (OpParts c 1 6 0 p q)) (HG : Hid (OpGives c 1 6 0 p q)) (HRY : Hid (Gives 21 #[.agg #[.int .i64 s, .int .i64 ix, .int .u8 c, .int .u8 d, .int .u16 n, .int .i64 ln], .int .i64 6] (.string ⟨ry.toArray⟩))) (ryl : ry.length ≤ 16) :
    Gives 23 #[.agg #[.int .i64 s, .int .i64 ix, .int .u8 c, .int .u8 d, .int .u16 n, .int .i64 ln]] (.string ⟨(([105, 110, 32, 40, 99, 41] : List UInt8)).toArray⟩) := by
  intro w
  have HB0 := Lib.hid (Blk.new w 26 [.int .i64 s, .int .i64 ix, .int .u8 c, .int .u8 d, .int .u16 n, .int .i64 ln])
  obtain ⟨k0, k1, k2, k3, k4, k5⟩ := cells6 HB0.out
  go_enter Try.func23, Try.ntmps23
  go_wp2_with (first
    | (go_at_call 25; refine (HP.out.x _).mono ?_; rintro e w' ⟨rfl, rfl⟩)
    | (go_at_call 39; refine (HP.out.y _).mono ?_; rintro e w' ⟨rfl, rfl⟩)
    | (go_at_call 22; refine (HP.out.z _).mono ?_; rintro e w' ⟨rfl, rfl⟩))
  refine wp_region_quiet_below (by kernel_rfl) (by kernel_rfl) ?_
  repeat (quiet_step (first | (go_at_call 25; exact HG.out.x.q) | (go_at_call 39; exact HG.out.y.q) | (go_at_call 22; exact HG.out.z.q) | (go_at_call 45; exact HG.out.p.q) | (go_at_call 43; exact HG.out.q.q) | (go_at_call 21; exact HRY.out.q)))
  refine wpQuiet_nil ?_
  intro _ hwq
  obtain ⟨⟨dq, osq⟩, hwr⟩ := hwq
  subst hwr
  have HB1 := Lib.hid (HB0.out.below_ (below_regrown _ dq osq))
  obtain ⟨m0, m1, m2, m3, m4, m5⟩ := cells6 HB1.out
  go_wp2_with (first
    | (go_at_call 39; refine (HP.out.y _).mono ?_; rintro e w' ⟨rfl, rfl⟩)
    | (go_at_call 22; refine (HP.out.z _).mono ?_; rintro e w' ⟨rfl, rfl⟩)
    | (go_at_call 43; refine (HP.out.q _).mono ?_; rintro e w' ⟨rfl, rfl⟩))
  go_ret
  refine ⟨str_of' ?_, ?_⟩
  · first | rfl | (simp only [← app_data]; done) | (simp only [← app_data]; rfl) | (simp only [app_data, List.append_assoc, List.cons_append, List.nil_append])
  exact below_quiet _ _ _ _ (below_box _ _)
set_option maxRecDepth 100000 in
set_option maxHeartbeats 4000000 in
theorem more_0 (s ix c d n ln pc : Int) (y p q : Int) (ry : List UInt8) (HP : Hid (OpParts c 1 y 0 p q)) (HG : Hid (OpGives c 1 y 0 p q)) (y6 : (y == 6) = false) (HRY : Hid (Gives 21 #[.agg #[.int .i64 s, .int .i64 ix, .int .u8 c, .int .u8 d, .int .u16 n, .int .i64 ln], .int .i64 y] (.string ⟨ry.toArray⟩))) (ryl : ry.length ≤ 16) :
    Gives 23 #[.agg #[.int .i64 s, .int .i64 ix, .int .u8 c, .int .u8 d, .int .u16 n, .int .i64 ln]] (.string ⟨(([105, 110, 32] : List UInt8) ++ ry ++ ([44, 40, 99, 41] : List UInt8)).toArray⟩) := by
  intro w
  have HB0 := Lib.hid (Blk.new w 26 [.int .i64 s, .int .i64 ix, .int .u8 c, .int .u8 d, .int .u16 n, .int .i64 ln])
  obtain ⟨k0, k1, k2, k3, k4, k5⟩ := cells6 HB0.out
  go_enter Try.func23, Try.ntmps23
  go_wp2_with (first
    | (go_at_call 25; refine (HP.out.x _).mono ?_; rintro e w' ⟨rfl, rfl⟩)
    | (go_at_call 39; refine (HP.out.y _).mono ?_; rintro e w' ⟨rfl, rfl⟩)
    | (go_at_call 22; refine (HP.out.z _).mono ?_; rintro e w' ⟨rfl, rfl⟩))
  refine wp_region_quiet_below (by kernel_rfl) (by kernel_rfl) ?_
  repeat (quiet_step (first | (go_at_call 25; exact HG.out.x.q) | (go_at_call 39; exact HG.out.y.q) | (go_at_call 22; exact HG.out.z.q) | (go_at_call 45; exact HG.out.p.q) | (go_at_call 43; exact HG.out.q.q) | (go_at_call 21; exact HRY.out.q)))
  refine wpQuiet_nil ?_
  intro _ hwq
  obtain ⟨⟨dq, osq⟩, hwr⟩ := hwq
  subst hwr
  have HB1 := Lib.hid (HB0.out.below_ (below_regrown _ dq osq))
  obtain ⟨m0, m1, m2, m3, m4, m5⟩ := cells6 HB1.out
  go_wp2_with (first
    | (go_at_call 39; refine (HP.out.y _).mono ?_; rintro e w' ⟨rfl, rfl⟩)
    | (go_at_call 22; refine (HP.out.z _).mono ?_; rintro e w' ⟨rfl, rfl⟩)
    | (go_at_call 43; refine (HP.out.q _).mono ?_; rintro e w' ⟨rfl, rfl⟩))
  go_ret
  refine ⟨str_of' ?_, ?_⟩
  · first | rfl | (simp only [← app_data]; done) | (simp only [← app_data]; rfl) | (simp only [app_data, List.append_assoc, List.cons_append, List.nil_append])
  exact below_quiet _ _ _ _ (below_box _ _)
set_option maxRecDepth 100000 in
set_option maxHeartbeats 4000000 in
theorem more_16 (s ix c d n ln pc : Int) (p q : Int) (ry : List UInt8) (HP : Hid (OpParts c 1 6 1 p q)) (HG : Hid (OpGives c 1 6 1 p q)) (HRY : Hid (Gives 21 #[.agg #[.int .i64 s, .int .i64 ix, .int .u8 c, .int .u8 d, .int .u16 n, .int .i64 ln], .int .i64 6] (.string ⟨ry.toArray⟩))) (ryl : ry.length ≤ 16) :
    Gives 23 #[.agg #[.int .i64 s, .int .i64 ix, .int .u8 c, .int .u8 d, .int .u16 n, .int .i64 ln]] (.string ⟨(([111, 117, 116, 32, 40, 99, 41, 44] : List UInt8) ++ ([48] : List UInt8)).toArray⟩) := by
  intro w
  have HB0 := Lib.hid (Blk.new w 26 [.int .i64 s, .int .i64 ix, .int .u8 c, .int .u8 d, .int .u16 n, .int .i64 ln])
  obtain ⟨k0, k1, k2, k3, k4, k5⟩ := cells6 HB0.out
  go_enter Try.func23, Try.ntmps23
  go_wp2_with (first
    | (go_at_call 25; refine (HP.out.x _).mono ?_; rintro e w' ⟨rfl, rfl⟩)
    | (go_at_call 39; refine (HP.out.y _).mono ?_; rintro e w' ⟨rfl, rfl⟩)
    | (go_at_call 22; refine (HP.out.z _).mono ?_; rintro e w' ⟨rfl, rfl⟩))
  refine wp_region_quiet_below (by kernel_rfl) (by kernel_rfl) ?_
  repeat (quiet_step (first | (go_at_call 25; exact HG.out.x.q) | (go_at_call 39; exact HG.out.y.q) | (go_at_call 22; exact HG.out.z.q) | (go_at_call 45; exact HG.out.p.q) | (go_at_call 43; exact HG.out.q.q) | (go_at_call 21; exact HRY.out.q)))
  refine wpQuiet_nil ?_
  intro _ hwq
  obtain ⟨⟨dq, osq⟩, hwr⟩ := hwq
  subst hwr
  have HB1 := Lib.hid (HB0.out.below_ (below_regrown _ dq osq))
  obtain ⟨m0, m1, m2, m3, m4, m5⟩ := cells6 HB1.out
  go_wp2_with (first
    | (go_at_call 39; refine (HP.out.y _).mono ?_; rintro e w' ⟨rfl, rfl⟩)
    | (go_at_call 22; refine (HP.out.z _).mono ?_; rintro e w' ⟨rfl, rfl⟩)
    | (go_at_call 43; refine (HP.out.q _).mono ?_; rintro e w' ⟨rfl, rfl⟩))
  go_ret
  refine ⟨str_of' ?_, ?_⟩
  · first | rfl | (simp only [← app_data]; done) | (simp only [← app_data]; rfl) | (simp only [app_data, List.append_assoc, List.cons_append, List.nil_append])
  exact below_quiet _ _ _ _ (below_box _ _)
set_option maxRecDepth 100000 in
set_option maxHeartbeats 4000000 in
theorem more_1 (s ix c d n ln pc : Int) (y p q : Int) (ry : List UInt8) (HP : Hid (OpParts c 1 y 1 p q)) (HG : Hid (OpGives c 1 y 1 p q)) (y6 : (y == 6) = false) (HRY : Hid (Gives 21 #[.agg #[.int .i64 s, .int .i64 ix, .int .u8 c, .int .u8 d, .int .u16 n, .int .i64 ln], .int .i64 y] (.string ⟨ry.toArray⟩))) (ryl : ry.length ≤ 16) :
    Gives 23 #[.agg #[.int .i64 s, .int .i64 ix, .int .u8 c, .int .u8 d, .int .u16 n, .int .i64 ln]] (.string ⟨(([111, 117, 116, 32, 40, 99, 41, 44] : List UInt8) ++ ry).toArray⟩) := by
  intro w
  have HB0 := Lib.hid (Blk.new w 26 [.int .i64 s, .int .i64 ix, .int .u8 c, .int .u8 d, .int .u16 n, .int .i64 ln])
  obtain ⟨k0, k1, k2, k3, k4, k5⟩ := cells6 HB0.out
  go_enter Try.func23, Try.ntmps23
  go_wp2_with (first
    | (go_at_call 25; refine (HP.out.x _).mono ?_; rintro e w' ⟨rfl, rfl⟩)
    | (go_at_call 39; refine (HP.out.y _).mono ?_; rintro e w' ⟨rfl, rfl⟩)
    | (go_at_call 22; refine (HP.out.z _).mono ?_; rintro e w' ⟨rfl, rfl⟩))
  refine wp_region_quiet_below (by kernel_rfl) (by kernel_rfl) ?_
  repeat (quiet_step (first | (go_at_call 25; exact HG.out.x.q) | (go_at_call 39; exact HG.out.y.q) | (go_at_call 22; exact HG.out.z.q) | (go_at_call 45; exact HG.out.p.q) | (go_at_call 43; exact HG.out.q.q) | (go_at_call 21; exact HRY.out.q)))
  refine wpQuiet_nil ?_
  intro _ hwq
  obtain ⟨⟨dq, osq⟩, hwr⟩ := hwq
  subst hwr
  have HB1 := Lib.hid (HB0.out.below_ (below_regrown _ dq osq))
  obtain ⟨m0, m1, m2, m3, m4, m5⟩ := cells6 HB1.out
  go_wp2_with (first
    | (go_at_call 39; refine (HP.out.y _).mono ?_; rintro e w' ⟨rfl, rfl⟩)
    | (go_at_call 22; refine (HP.out.z _).mono ?_; rintro e w' ⟨rfl, rfl⟩)
    | (go_at_call 43; refine (HP.out.q _).mono ?_; rintro e w' ⟨rfl, rfl⟩))
  go_ret
  refine ⟨str_of' ?_, ?_⟩
  · first | rfl | (simp only [← app_data]; done) | (simp only [← app_data]; rfl) | (simp only [app_data, List.append_assoc, List.cons_append, List.nil_append])
  exact below_quiet _ _ _ _ (below_box _ _)
set_option maxRecDepth 100000 in
set_option maxHeartbeats 4000000 in
theorem more_2 (s ix c d n ln pc : Int) (y p q : Int) (ry pr : List UInt8) (HP : Hid (OpParts c 1 y 2 p q)) (HG : Hid (OpGives c 1 y 2 p q)) (iq : List UInt8) (iql : iq.length ≤ 8) (hiq : ∀ u : World, (Instr.index 59 (.agg #[.string ⟨#[115, 98, 99, 32, 104, 108, 44]⟩, .string ⟨#[97, 100, 99, 32, 104, 108, 44]⟩]) (.int .i64 q)).run Try.prog u = .ok (.string ⟨iq.toArray⟩) u) (HRY : Hid (Gives 21 #[.agg #[.int .i64 s, .int .i64 ix, .int .u8 c, .int .u8 d, .int .u16 n, .int .i64 ln], .int .i64 y] (.string ⟨ry.toArray⟩))) (ryl : ry.length ≤ 16) (HPR : Hid (Gives 44 #[.agg #[.int .i64 s, .int .i64 ix, .int .u8 c, .int .u8 d, .int .u16 n, .int .i64 ln], .int .i64 p] (.string ⟨pr.toArray⟩))) (prl : pr.length ≤ 8) :
    Gives 23 #[.agg #[.int .i64 s, .int .i64 ix, .int .u8 c, .int .u8 d, .int .u16 n, .int .i64 ln]] (.string ⟨(iq ++ pr).toArray⟩) := by
  intro w
  have HB0 := Lib.hid (Blk.new w 26 [.int .i64 s, .int .i64 ix, .int .u8 c, .int .u8 d, .int .u16 n, .int .i64 ln])
  obtain ⟨k0, k1, k2, k3, k4, k5⟩ := cells6 HB0.out
  go_enter Try.func23, Try.ntmps23
  have sz0 : ¬ 9223372036854775807 < iq.length + pr.length := by omega
  go_wp2_with (first
    | (go_at_call 25; refine (HP.out.x _).mono ?_; rintro e w' ⟨rfl, rfl⟩)
    | (go_at_call 39; refine (HP.out.y _).mono ?_; rintro e w' ⟨rfl, rfl⟩)
    | (go_at_call 22; refine (HP.out.z _).mono ?_; rintro e w' ⟨rfl, rfl⟩))
  refine wp_region_quiet_below (by kernel_rfl) (by kernel_rfl) ?_
  repeat (quiet_step (first | (go_at_call 25; exact HG.out.x.q) | (go_at_call 39; exact HG.out.y.q) | (go_at_call 22; exact HG.out.z.q) | (go_at_call 45; exact HG.out.p.q) | (go_at_call 43; exact HG.out.q.q) | (go_at_call 21; exact HRY.out.q)))
  refine wpQuiet_nil ?_
  intro _ hwq
  obtain ⟨⟨dq, osq⟩, hwr⟩ := hwq
  subst hwr
  have HB1 := Lib.hid (HB0.out.below_ (below_regrown _ dq osq))
  obtain ⟨m0, m1, m2, m3, m4, m5⟩ := cells6 HB1.out
  go_wp2_with (first
    | (go_at_call 39; refine (HP.out.y _).mono ?_; rintro e w' ⟨rfl, rfl⟩)
    | (go_at_call 22; refine (HP.out.z _).mono ?_; rintro e w' ⟨rfl, rfl⟩)
    | (go_at_call 43; refine (HP.out.q _).mono ?_; rintro e w' ⟨rfl, rfl⟩))
  refine wp_region_quiet_below (by kernel_rfl) (by kernel_rfl) ?_
  repeat (quiet_step (first | (go_at_call 25; exact HG.out.x.q) | (go_at_call 39; exact HG.out.y.q) | (go_at_call 22; exact HG.out.z.q) | (go_at_call 45; exact HG.out.p.q) | (go_at_call 43; exact HG.out.q.q) | (go_at_call 44; exact HPR.out.q)))
  refine wpQuiet_nil ?_
  intro _ hwq
  obtain ⟨⟨dr, osr⟩, hwr⟩ := hwq
  subst hwr
  go_wp2
  go_ret
  refine ⟨str_of' ?_, ?_⟩
  · first | rfl | (simp only [← app_data]; done) | (simp only [← app_data]; rfl) | (simp only [app_data, List.append_assoc, List.cons_append, List.nil_append])
  exact below_quiet _ _ _ _ (below_quiet _ _ _ _ (below_box _ _))
set_option maxRecDepth 100000 in
set_option maxHeartbeats 4000000 in
theorem more_30 (s ix c d n ln pc : Int) (y p : Int) (ry h4 pr : List UInt8) (HP : Hid (OpParts c 1 y 3 p 0)) (HG : Hid (OpGives c 1 y 3 p 0)) (HRY : Hid (Gives 21 #[.agg #[.int .i64 s, .int .i64 ix, .int .u8 c, .int .u8 d, .int .u16 n, .int .i64 ln], .int .i64 y] (.string ⟨ry.toArray⟩))) (ryl : ry.length ≤ 16) (HH4 : Hid (Gives 46 #[.int .u16 n, .int .i64 4] (.string ⟨h4.toArray⟩))) (h4l : h4.length ≤ 8) (HPR : Hid (Gives 44 #[.agg #[.int .i64 s, .int .i64 ix, .int .u8 c, .int .u8 d, .int .u16 n, .int .i64 ln], .int .i64 p] (.string ⟨pr.toArray⟩))) (prl : pr.length ≤ 8) :
    Gives 23 #[.agg #[.int .i64 s, .int .i64 ix, .int .u8 c, .int .u8 d, .int .u16 n, .int .i64 ln]] (.string ⟨(([108, 100, 32, 40] : List UInt8) ++ h4 ++ ([41, 44] : List UInt8) ++ pr).toArray⟩) := by
  intro w
  have HB0 := Lib.hid (Blk.new w 26 [.int .i64 s, .int .i64 ix, .int .u8 c, .int .u8 d, .int .u16 n, .int .i64 ln])
  obtain ⟨k0, k1, k2, k3, k4, k5⟩ := cells6 HB0.out
  go_enter Try.func23, Try.ntmps23
  have sz0 : ¬ 9223372036854775807 < 4 + h4.length := by omega
  have sz1 : ¬ 9223372036854775807 < 4 + h4.length + 2 := by omega
  have sz2 : ¬ 9223372036854775807 < 4 + h4.length + 2 + pr.length := by omega
  go_wp2_with (first
    | (go_at_call 25; refine (HP.out.x _).mono ?_; rintro e w' ⟨rfl, rfl⟩)
    | (go_at_call 39; refine (HP.out.y _).mono ?_; rintro e w' ⟨rfl, rfl⟩)
    | (go_at_call 22; refine (HP.out.z _).mono ?_; rintro e w' ⟨rfl, rfl⟩))
  refine wp_region_quiet_below (by kernel_rfl) (by kernel_rfl) ?_
  repeat (quiet_step (first | (go_at_call 25; exact HG.out.x.q) | (go_at_call 39; exact HG.out.y.q) | (go_at_call 22; exact HG.out.z.q) | (go_at_call 45; exact HG.out.p.q) | (go_at_call 43; exact HG.out.q.q) | (go_at_call 21; exact HRY.out.q)))
  refine wpQuiet_nil ?_
  intro _ hwq
  obtain ⟨⟨dq, osq⟩, hwr⟩ := hwq
  subst hwr
  have HB1 := Lib.hid (HB0.out.below_ (below_regrown _ dq osq))
  obtain ⟨m0, m1, m2, m3, m4, m5⟩ := cells6 HB1.out
  go_wp2_with (first
    | (go_at_call 39; refine (HP.out.y _).mono ?_; rintro e w' ⟨rfl, rfl⟩)
    | (go_at_call 22; refine (HP.out.z _).mono ?_; rintro e w' ⟨rfl, rfl⟩)
    | (go_at_call 43; refine (HP.out.q _).mono ?_; rintro e w' ⟨rfl, rfl⟩))
  refine wp_region_quiet_below (by kernel_rfl) (by kernel_rfl) ?_
  repeat (quiet_step (first | (go_at_call 25; exact HG.out.x.q) | (go_at_call 39; exact HG.out.y.q) | (go_at_call 22; exact HG.out.z.q) | (go_at_call 45; exact HG.out.p.q) | (go_at_call 43; exact HG.out.q.q) | (go_at_call_of 46 (Value.int .i64 4); exact HH4.out.q) | (go_at_call 44; exact HPR.out.q)))
  refine wpQuiet_nil ?_
  intro _ hwq
  obtain ⟨⟨dr, osr⟩, hwr⟩ := hwq
  subst hwr
  go_wp2
  go_ret
  refine ⟨str_of' ?_, ?_⟩
  · first | rfl | (simp only [← app_data]; done) | (simp only [← app_data]; rfl) | (simp only [app_data, List.append_assoc, List.cons_append, List.nil_append])
  exact below_quiet _ _ _ _ (below_quiet _ _ _ _ (below_box _ _))
set_option maxRecDepth 100000 in
set_option maxHeartbeats 4000000 in
theorem more_31 (s ix c d n ln pc : Int) (y p : Int) (ry h4 pr : List UInt8) (HP : Hid (OpParts c 1 y 3 p 1)) (HG : Hid (OpGives c 1 y 3 p 1)) (HRY : Hid (Gives 21 #[.agg #[.int .i64 s, .int .i64 ix, .int .u8 c, .int .u8 d, .int .u16 n, .int .i64 ln], .int .i64 y] (.string ⟨ry.toArray⟩))) (ryl : ry.length ≤ 16) (HH4 : Hid (Gives 46 #[.int .u16 n, .int .i64 4] (.string ⟨h4.toArray⟩))) (h4l : h4.length ≤ 8) (HPR : Hid (Gives 44 #[.agg #[.int .i64 s, .int .i64 ix, .int .u8 c, .int .u8 d, .int .u16 n, .int .i64 ln], .int .i64 p] (.string ⟨pr.toArray⟩))) (prl : pr.length ≤ 8) :
    Gives 23 #[.agg #[.int .i64 s, .int .i64 ix, .int .u8 c, .int .u8 d, .int .u16 n, .int .i64 ln]] (.string ⟨(([108, 100, 32] : List UInt8) ++ pr ++ ([44, 40] : List UInt8) ++ h4 ++ ([41] : List UInt8)).toArray⟩) := by
  intro w
  have HB0 := Lib.hid (Blk.new w 26 [.int .i64 s, .int .i64 ix, .int .u8 c, .int .u8 d, .int .u16 n, .int .i64 ln])
  obtain ⟨k0, k1, k2, k3, k4, k5⟩ := cells6 HB0.out
  go_enter Try.func23, Try.ntmps23
  have sz0 : ¬ 9223372036854775807 < 3 + pr.length := by omega
  have sz1 : ¬ 9223372036854775807 < 3 + pr.length + 2 := by omega
  have sz2 : ¬ 9223372036854775807 < 3 + pr.length + 2 + h4.length := by omega
  have sz3 : ¬ 9223372036854775807 < 3 + pr.length + 2 + h4.length + 1 := by omega
  go_wp2_with (first
    | (go_at_call 25; refine (HP.out.x _).mono ?_; rintro e w' ⟨rfl, rfl⟩)
    | (go_at_call 39; refine (HP.out.y _).mono ?_; rintro e w' ⟨rfl, rfl⟩)
    | (go_at_call 22; refine (HP.out.z _).mono ?_; rintro e w' ⟨rfl, rfl⟩))
  refine wp_region_quiet_below (by kernel_rfl) (by kernel_rfl) ?_
  repeat (quiet_step (first | (go_at_call 25; exact HG.out.x.q) | (go_at_call 39; exact HG.out.y.q) | (go_at_call 22; exact HG.out.z.q) | (go_at_call 45; exact HG.out.p.q) | (go_at_call 43; exact HG.out.q.q) | (go_at_call 21; exact HRY.out.q)))
  refine wpQuiet_nil ?_
  intro _ hwq
  obtain ⟨⟨dq, osq⟩, hwr⟩ := hwq
  subst hwr
  have HB1 := Lib.hid (HB0.out.below_ (below_regrown _ dq osq))
  obtain ⟨m0, m1, m2, m3, m4, m5⟩ := cells6 HB1.out
  go_wp2_with (first
    | (go_at_call 39; refine (HP.out.y _).mono ?_; rintro e w' ⟨rfl, rfl⟩)
    | (go_at_call 22; refine (HP.out.z _).mono ?_; rintro e w' ⟨rfl, rfl⟩)
    | (go_at_call 43; refine (HP.out.q _).mono ?_; rintro e w' ⟨rfl, rfl⟩))
  refine wp_region_quiet_below (by kernel_rfl) (by kernel_rfl) ?_
  repeat (quiet_step (first | (go_at_call 25; exact HG.out.x.q) | (go_at_call 39; exact HG.out.y.q) | (go_at_call 22; exact HG.out.z.q) | (go_at_call 45; exact HG.out.p.q) | (go_at_call 43; exact HG.out.q.q) | (go_at_call_of 46 (Value.int .i64 4); exact HH4.out.q) | (go_at_call 44; exact HPR.out.q)))
  refine wpQuiet_nil ?_
  intro _ hwq
  obtain ⟨⟨dr, osr⟩, hwr⟩ := hwq
  subst hwr
  go_wp2
  go_ret
  refine ⟨str_of' ?_, ?_⟩
  · first | rfl | (simp only [← app_data]; done) | (simp only [← app_data]; rfl) | (simp only [app_data, List.append_assoc, List.cons_append, List.nil_append])
  exact below_quiet _ _ _ _ (below_quiet _ _ _ _ (below_box _ _))
set_option maxRecDepth 100000 in
set_option maxHeartbeats 4000000 in
theorem more_4 (s ix c d n ln pc : Int) (y p q : Int) (ry : List UInt8) (HP : Hid (OpParts c 1 y 4 p q)) (HG : Hid (OpGives c 1 y 4 p q)) (HRY : Hid (Gives 21 #[.agg #[.int .i64 s, .int .i64 ix, .int .u8 c, .int .u8 d, .int .u16 n, .int .i64 ln], .int .i64 y] (.string ⟨ry.toArray⟩))) (ryl : ry.length ≤ 16) :
    Gives 23 #[.agg #[.int .i64 s, .int .i64 ix, .int .u8 c, .int .u8 d, .int .u16 n, .int .i64 ln]] (.string ⟨(([110, 101, 103] : List UInt8)).toArray⟩) := by
  intro w
  have HB0 := Lib.hid (Blk.new w 26 [.int .i64 s, .int .i64 ix, .int .u8 c, .int .u8 d, .int .u16 n, .int .i64 ln])
  obtain ⟨k0, k1, k2, k3, k4, k5⟩ := cells6 HB0.out
  go_enter Try.func23, Try.ntmps23
  go_wp2_with (first
    | (go_at_call 25; refine (HP.out.x _).mono ?_; rintro e w' ⟨rfl, rfl⟩)
    | (go_at_call 39; refine (HP.out.y _).mono ?_; rintro e w' ⟨rfl, rfl⟩)
    | (go_at_call 22; refine (HP.out.z _).mono ?_; rintro e w' ⟨rfl, rfl⟩))
  refine wp_region_quiet_below (by kernel_rfl) (by kernel_rfl) ?_
  repeat (quiet_step (first | (go_at_call 25; exact HG.out.x.q) | (go_at_call 39; exact HG.out.y.q) | (go_at_call 22; exact HG.out.z.q) | (go_at_call 45; exact HG.out.p.q) | (go_at_call 43; exact HG.out.q.q) | (go_at_call 21; exact HRY.out.q)))
  refine wpQuiet_nil ?_
  intro _ hwq
  obtain ⟨⟨dq, osq⟩, hwr⟩ := hwq
  subst hwr
  have HB1 := Lib.hid (HB0.out.below_ (below_regrown _ dq osq))
  obtain ⟨m0, m1, m2, m3, m4, m5⟩ := cells6 HB1.out
  go_wp2_with (first
    | (go_at_call 39; refine (HP.out.y _).mono ?_; rintro e w' ⟨rfl, rfl⟩)
    | (go_at_call 22; refine (HP.out.z _).mono ?_; rintro e w' ⟨rfl, rfl⟩)
    | (go_at_call 43; refine (HP.out.q _).mono ?_; rintro e w' ⟨rfl, rfl⟩))
  go_ret
  refine ⟨str_of' ?_, ?_⟩
  · first | rfl | (simp only [← app_data]; done) | (simp only [← app_data]; rfl) | (simp only [app_data, List.append_assoc, List.cons_append, List.nil_append])
  exact below_quiet _ _ _ _ (below_box _ _)
set_option maxRecDepth 100000 in
set_option maxHeartbeats 4000000 in
theorem more_51 (s ix c d n ln pc : Int) (p q : Int) (ry : List UInt8) (HP : Hid (OpParts c 1 1 5 p q)) (HG : Hid (OpGives c 1 1 5 p q)) (HRY : Hid (Gives 21 #[.agg #[.int .i64 s, .int .i64 ix, .int .u8 c, .int .u8 d, .int .u16 n, .int .i64 ln], .int .i64 1] (.string ⟨ry.toArray⟩))) (ryl : ry.length ≤ 16) :
    Gives 23 #[.agg #[.int .i64 s, .int .i64 ix, .int .u8 c, .int .u8 d, .int .u16 n, .int .i64 ln]] (.string ⟨(([114, 101, 116, 105] : List UInt8)).toArray⟩) := by
  intro w
  have HB0 := Lib.hid (Blk.new w 26 [.int .i64 s, .int .i64 ix, .int .u8 c, .int .u8 d, .int .u16 n, .int .i64 ln])
  obtain ⟨k0, k1, k2, k3, k4, k5⟩ := cells6 HB0.out
  go_enter Try.func23, Try.ntmps23
  go_wp2_with (first
    | (go_at_call 25; refine (HP.out.x _).mono ?_; rintro e w' ⟨rfl, rfl⟩)
    | (go_at_call 39; refine (HP.out.y _).mono ?_; rintro e w' ⟨rfl, rfl⟩)
    | (go_at_call 22; refine (HP.out.z _).mono ?_; rintro e w' ⟨rfl, rfl⟩))
  refine wp_region_quiet_below (by kernel_rfl) (by kernel_rfl) ?_
  repeat (quiet_step (first | (go_at_call 25; exact HG.out.x.q) | (go_at_call 39; exact HG.out.y.q) | (go_at_call 22; exact HG.out.z.q) | (go_at_call 45; exact HG.out.p.q) | (go_at_call 43; exact HG.out.q.q) | (go_at_call 21; exact HRY.out.q)))
  refine wpQuiet_nil ?_
  intro _ hwq
  obtain ⟨⟨dq, osq⟩, hwr⟩ := hwq
  subst hwr
  have HB1 := Lib.hid (HB0.out.below_ (below_regrown _ dq osq))
  obtain ⟨m0, m1, m2, m3, m4, m5⟩ := cells6 HB1.out
  go_wp2_with (first
    | (go_at_call 39; refine (HP.out.y _).mono ?_; rintro e w' ⟨rfl, rfl⟩)
    | (go_at_call 22; refine (HP.out.z _).mono ?_; rintro e w' ⟨rfl, rfl⟩)
    | (go_at_call 43; refine (HP.out.q _).mono ?_; rintro e w' ⟨rfl, rfl⟩))
  go_ret
  refine ⟨str_of' ?_, ?_⟩
  · first | rfl | (simp only [← app_data]; done) | (simp only [← app_data]; rfl) | (simp only [app_data, List.append_assoc, List.cons_append, List.nil_append])
  exact below_quiet _ _ _ _ (below_box _ _)
set_option maxRecDepth 100000 in
set_option maxHeartbeats 4000000 in
theorem more_5 (s ix c d n ln pc : Int) (y p q : Int) (ry : List UInt8) (HP : Hid (OpParts c 1 y 5 p q)) (HG : Hid (OpGives c 1 y 5 p q)) (y1 : (y == 1) = false) (HRY : Hid (Gives 21 #[.agg #[.int .i64 s, .int .i64 ix, .int .u8 c, .int .u8 d, .int .u16 n, .int .i64 ln], .int .i64 y] (.string ⟨ry.toArray⟩))) (ryl : ry.length ≤ 16) :
    Gives 23 #[.agg #[.int .i64 s, .int .i64 ix, .int .u8 c, .int .u8 d, .int .u16 n, .int .i64 ln]] (.string ⟨(([114, 101, 116, 110] : List UInt8)).toArray⟩) := by
  intro w
  have HB0 := Lib.hid (Blk.new w 26 [.int .i64 s, .int .i64 ix, .int .u8 c, .int .u8 d, .int .u16 n, .int .i64 ln])
  obtain ⟨k0, k1, k2, k3, k4, k5⟩ := cells6 HB0.out
  go_enter Try.func23, Try.ntmps23
  go_wp2_with (first
    | (go_at_call 25; refine (HP.out.x _).mono ?_; rintro e w' ⟨rfl, rfl⟩)
    | (go_at_call 39; refine (HP.out.y _).mono ?_; rintro e w' ⟨rfl, rfl⟩)
    | (go_at_call 22; refine (HP.out.z _).mono ?_; rintro e w' ⟨rfl, rfl⟩))
  refine wp_region_quiet_below (by kernel_rfl) (by kernel_rfl) ?_
  repeat (quiet_step (first | (go_at_call 25; exact HG.out.x.q) | (go_at_call 39; exact HG.out.y.q) | (go_at_call 22; exact HG.out.z.q) | (go_at_call 45; exact HG.out.p.q) | (go_at_call 43; exact HG.out.q.q) | (go_at_call 21; exact HRY.out.q)))
  refine wpQuiet_nil ?_
  intro _ hwq
  obtain ⟨⟨dq, osq⟩, hwr⟩ := hwq
  subst hwr
  have HB1 := Lib.hid (HB0.out.below_ (below_regrown _ dq osq))
  obtain ⟨m0, m1, m2, m3, m4, m5⟩ := cells6 HB1.out
  go_wp2_with (first
    | (go_at_call 39; refine (HP.out.y _).mono ?_; rintro e w' ⟨rfl, rfl⟩)
    | (go_at_call 22; refine (HP.out.z _).mono ?_; rintro e w' ⟨rfl, rfl⟩)
    | (go_at_call 43; refine (HP.out.q _).mono ?_; rintro e w' ⟨rfl, rfl⟩))
  go_ret
  refine ⟨str_of' ?_, ?_⟩
  · first | rfl | (simp only [← app_data]; done) | (simp only [← app_data]; rfl) | (simp only [app_data, List.append_assoc, List.cons_append, List.nil_append])
  exact below_quiet _ _ _ _ (below_box _ _)
set_option maxRecDepth 100000 in
set_option maxHeartbeats 4000000 in
theorem more_6 (s ix c d n ln pc : Int) (y p q : Int) (ry : List UInt8) (HP : Hid (OpParts c 1 y 6 p q)) (HG : Hid (OpGives c 1 y 6 p q)) (ym : Int) (hym : bits .and .i64 y 3 = ym) (iq : List UInt8) (iql : iq.length ≤ 8) (hiq : ∀ u : World, (Instr.index 61 (.agg #[.string ⟨#[48]⟩, .string ⟨#[48]⟩, .string ⟨#[49]⟩, .string ⟨#[50]⟩]) (.int .i64 ym)).run Try.prog u = .ok (.string ⟨iq.toArray⟩) u) (HRY : Hid (Gives 21 #[.agg #[.int .i64 s, .int .i64 ix, .int .u8 c, .int .u8 d, .int .u16 n, .int .i64 ln], .int .i64 y] (.string ⟨ry.toArray⟩))) (ryl : ry.length ≤ 16) :
    Gives 23 #[.agg #[.int .i64 s, .int .i64 ix, .int .u8 c, .int .u8 d, .int .u16 n, .int .i64 ln]] (.string ⟨(([105, 109, 32] : List UInt8) ++ iq).toArray⟩) := by
  intro w
  have HB0 := Lib.hid (Blk.new w 26 [.int .i64 s, .int .i64 ix, .int .u8 c, .int .u8 d, .int .u16 n, .int .i64 ln])
  obtain ⟨k0, k1, k2, k3, k4, k5⟩ := cells6 HB0.out
  go_enter Try.func23, Try.ntmps23
  go_wp2_with (first
    | (go_at_call 25; refine (HP.out.x _).mono ?_; rintro e w' ⟨rfl, rfl⟩)
    | (go_at_call 39; refine (HP.out.y _).mono ?_; rintro e w' ⟨rfl, rfl⟩)
    | (go_at_call 22; refine (HP.out.z _).mono ?_; rintro e w' ⟨rfl, rfl⟩))
  refine wp_region_quiet_below (by kernel_rfl) (by kernel_rfl) ?_
  repeat (quiet_step (first | (go_at_call 25; exact HG.out.x.q) | (go_at_call 39; exact HG.out.y.q) | (go_at_call 22; exact HG.out.z.q) | (go_at_call 45; exact HG.out.p.q) | (go_at_call 43; exact HG.out.q.q) | (go_at_call 21; exact HRY.out.q)))
  refine wpQuiet_nil ?_
  intro _ hwq
  obtain ⟨⟨dq, osq⟩, hwr⟩ := hwq
  subst hwr
  have HB1 := Lib.hid (HB0.out.below_ (below_regrown _ dq osq))
  obtain ⟨m0, m1, m2, m3, m4, m5⟩ := cells6 HB1.out
  go_wp2_with (first
    | (go_at_call 39; refine (HP.out.y _).mono ?_; rintro e w' ⟨rfl, rfl⟩)
    | (go_at_call 22; refine (HP.out.z _).mono ?_; rintro e w' ⟨rfl, rfl⟩)
    | (go_at_call 43; refine (HP.out.q _).mono ?_; rintro e w' ⟨rfl, rfl⟩))
  go_ret
  refine ⟨str_of' ?_, ?_⟩
  · first | rfl | (simp only [← app_data]; done) | (simp only [← app_data]; rfl) | (simp only [app_data, List.append_assoc, List.cons_append, List.nil_append])
  exact below_quiet _ _ _ _ (below_box _ _)
set_option maxRecDepth 100000 in
set_option maxHeartbeats 4000000 in
theorem more_7 (s ix c d n ln pc : Int) (y p q : Int) (ry : List UInt8) (HP : Hid (OpParts c 1 y 7 p q)) (HG : Hid (OpGives c 1 y 7 p q)) (iq : List UInt8) (iql : iq.length ≤ 8) (hiq : ∀ u : World, (Instr.index 57 (.agg #[.string ⟨#[108, 100, 32, 105, 44, 97]⟩, .string ⟨#[108, 100, 32, 114, 44, 97]⟩, .string ⟨#[108, 100, 32, 97, 44, 105]⟩, .string ⟨#[108, 100, 32, 97, 44, 114]⟩, .string ⟨#[114, 114, 100]⟩, .string ⟨#[114, 108, 100]⟩, .string ⟨#[110, 111, 112]⟩, .string ⟨#[110, 111, 112]⟩]) (.int .i64 y)).run Try.prog u = .ok (.string ⟨iq.toArray⟩) u) (HRY : Hid (Gives 21 #[.agg #[.int .i64 s, .int .i64 ix, .int .u8 c, .int .u8 d, .int .u16 n, .int .i64 ln], .int .i64 y] (.string ⟨ry.toArray⟩))) (ryl : ry.length ≤ 16) :
    Gives 23 #[.agg #[.int .i64 s, .int .i64 ix, .int .u8 c, .int .u8 d, .int .u16 n, .int .i64 ln]] (.string ⟨(iq).toArray⟩) := by
  intro w
  have HB0 := Lib.hid (Blk.new w 26 [.int .i64 s, .int .i64 ix, .int .u8 c, .int .u8 d, .int .u16 n, .int .i64 ln])
  obtain ⟨k0, k1, k2, k3, k4, k5⟩ := cells6 HB0.out
  go_enter Try.func23, Try.ntmps23
  go_wp2_with (first
    | (go_at_call 25; refine (HP.out.x _).mono ?_; rintro e w' ⟨rfl, rfl⟩)
    | (go_at_call 39; refine (HP.out.y _).mono ?_; rintro e w' ⟨rfl, rfl⟩)
    | (go_at_call 22; refine (HP.out.z _).mono ?_; rintro e w' ⟨rfl, rfl⟩))
  refine wp_region_quiet_below (by kernel_rfl) (by kernel_rfl) ?_
  repeat (quiet_step (first | (go_at_call 25; exact HG.out.x.q) | (go_at_call 39; exact HG.out.y.q) | (go_at_call 22; exact HG.out.z.q) | (go_at_call 45; exact HG.out.p.q) | (go_at_call 43; exact HG.out.q.q) | (go_at_call 21; exact HRY.out.q)))
  refine wpQuiet_nil ?_
  intro _ hwq
  obtain ⟨⟨dq, osq⟩, hwr⟩ := hwq
  subst hwr
  have HB1 := Lib.hid (HB0.out.below_ (below_regrown _ dq osq))
  obtain ⟨m0, m1, m2, m3, m4, m5⟩ := cells6 HB1.out
  go_wp2_with (first
    | (go_at_call 39; refine (HP.out.y _).mono ?_; rintro e w' ⟨rfl, rfl⟩)
    | (go_at_call 22; refine (HP.out.z _).mono ?_; rintro e w' ⟨rfl, rfl⟩)
    | (go_at_call 43; refine (HP.out.q _).mono ?_; rintro e w' ⟨rfl, rfl⟩))
  go_ret
  refine ⟨str_of' ?_, ?_⟩
  · first | rfl | (simp only [← app_data]; done) | (simp only [← app_data]; rfl) | (simp only [app_data, List.append_assoc, List.cons_append, List.nil_append])
  exact below_quiet _ _ _ _ (below_box _ _)
set_option maxRecDepth 100000 in
set_option maxHeartbeats 4000000 in
theorem show_1 (s ix c d n ln pc : Int) (x y z p q : Int) (rz bt : List UInt8) (HP : Hid (OpParts c x y z p q)) (HG : Hid (OpGives c x y z p q)) (HRZ : Hid (Gives 21 #[.agg #[.int .i64 1, .int .i64 ix, .int .u8 c, .int .u8 d, .int .u16 n, .int .i64 ln], .int .i64 z] (.string ⟨rz.toArray⟩))) (rzl : rz.length ≤ 16) (HBT : Hid (Gives 20 #[.agg #[.int .i64 1, .int .i64 ix, .int .u8 c, .int .u8 d, .int .u16 n, .int .i64 ln], .string ⟨rz.toArray⟩] (.string ⟨bt.toArray⟩))) (btl : bt.length ≤ 40) :
    Gives 12 #[.agg #[.int .i64 1, .int .i64 ix, .int .u8 c, .int .u8 d, .int .u16 n, .int .i64 ln], .int .u16 pc] (.string ⟨(bt).toArray⟩) := by
  intro w
  have HB0 := Lib.hid (Blk.new w 26 [.int .i64 1, .int .i64 ix, .int .u8 c, .int .u8 d, .int .u16 n, .int .i64 ln])
  obtain ⟨k0, k1, k2, k3, k4, k5⟩ := cells6 HB0.out
  go_enter Try.func12, Try.ntmps12
  go_wp2_with (first
    | (go_at_call 25; refine (HP.out.x _).mono ?_; rintro e w' ⟨rfl, rfl⟩))
  refine wp_region_quiet_below (by kernel_rfl) (by kernel_rfl) ?_
  repeat (quiet_step (first | (go_at_call 25; exact HG.out.x.q) | (go_at_call 39; exact HG.out.y.q) | (go_at_call 22; exact HG.out.z.q) | (go_at_call 45; exact HG.out.p.q) | (go_at_call 43; exact HG.out.q.q) | (go_at_call 21; exact HRZ.out.q) | (go_at_call 20; exact HBT.out.q)))
  refine wpQuiet_nil ?_
  intro _ hwq
  obtain ⟨⟨dq, osq⟩, hwr⟩ := hwq
  subst hwr
  go_wp2
  go_ret
  refine ⟨str_of' ?_, ?_⟩
  · first | rfl | (simp only [← app_data]; done) | (simp only [← app_data]; rfl) | (simp only [app_data, List.append_assoc, List.cons_append, List.nil_append])
  exact below_quiet _ _ _ _ (below_box _ _)
set_option maxRecDepth 100000 in
set_option maxHeartbeats 4000000 in
theorem show_2 (s ix c d n ln pc : Int) (x y z p q : Int) (mo : List UInt8) (HP : Hid (OpParts c x y z p q)) (HG : Hid (OpGives c x y z p q)) (HMO : Hid (Gives 23 #[.agg #[.int .i64 2, .int .i64 ix, .int .u8 c, .int .u8 d, .int .u16 n, .int .i64 ln]] (.string ⟨mo.toArray⟩))) (mol : mo.length ≤ 40) :
    Gives 12 #[.agg #[.int .i64 2, .int .i64 ix, .int .u8 c, .int .u8 d, .int .u16 n, .int .i64 ln], .int .u16 pc] (.string ⟨(mo).toArray⟩) := by
  intro w
  have HB0 := Lib.hid (Blk.new w 26 [.int .i64 2, .int .i64 ix, .int .u8 c, .int .u8 d, .int .u16 n, .int .i64 ln])
  obtain ⟨k0, k1, k2, k3, k4, k5⟩ := cells6 HB0.out
  go_enter Try.func12, Try.ntmps12
  go_wp2_with (first
    | (go_at_call 25; refine (HP.out.x _).mono ?_; rintro e w' ⟨rfl, rfl⟩)
    | (go_at_call 23; refine (HMO.out _).mono ?_; rintro e w1 ⟨rfl, hb1⟩))
  go_ret
  refine ⟨str_of' ?_, ?_⟩
  · first | rfl | (simp only [← app_data]; done) | (simp only [← app_data]; rfl) | (simp only [app_data, List.append_assoc, List.cons_append, List.nil_append])
  exact (below_box _ _).trans (hb1.mono (by simp))
set_option maxRecDepth 100000 in
set_option maxHeartbeats 4000000 in
theorem show_31 (s ix c d n ln pc : Int) (y z p q : Int) (aw bt : List UInt8) (HP : Hid (OpParts c 1 y z p q)) (HG : Hid (OpGives c 1 y z p q)) (HAW : Hid (Gives 24 #[.agg #[.int .i64 3, .int .i64 ix, .int .u8 c, .int .u8 d, .int .u16 n, .int .i64 ln]] (.string ⟨aw.toArray⟩))) (awl : aw.length ≤ 16) (HBT : Hid (Gives 20 #[.agg #[.int .i64 3, .int .i64 ix, .int .u8 c, .int .u8 d, .int .u16 n, .int .i64 ln], .string ⟨aw.toArray⟩] (.string ⟨bt.toArray⟩))) (btl : bt.length ≤ 40) :
    Gives 12 #[.agg #[.int .i64 3, .int .i64 ix, .int .u8 c, .int .u8 d, .int .u16 n, .int .i64 ln], .int .u16 pc] (.string ⟨(bt).toArray⟩) := by
  intro w
  have HB0 := Lib.hid (Blk.new w 26 [.int .i64 3, .int .i64 ix, .int .u8 c, .int .u8 d, .int .u16 n, .int .i64 ln])
  obtain ⟨k0, k1, k2, k3, k4, k5⟩ := cells6 HB0.out
  go_enter Try.func12, Try.ntmps12
  go_wp2_with (first
    | (go_at_call 25; refine (HP.out.x _).mono ?_; rintro e w' ⟨rfl, rfl⟩))
  refine wp_region_quiet_below (by kernel_rfl) (by kernel_rfl) ?_
  repeat (quiet_step (first | (go_at_call 25; exact HG.out.x.q) | (go_at_call 39; exact HG.out.y.q) | (go_at_call 22; exact HG.out.z.q) | (go_at_call 45; exact HG.out.p.q) | (go_at_call 43; exact HG.out.q.q) | (go_at_call 24; exact HAW.out.q) | (go_at_call 20; exact HBT.out.q)))
  refine wpQuiet_nil ?_
  intro _ hwq
  obtain ⟨⟨dq, osq⟩, hwr⟩ := hwq
  subst hwr
  have HB1 := Lib.hid (HB0.out.below_ (below_regrown _ dq osq))
  obtain ⟨m0, m1, m2, m3, m4, m5⟩ := cells6 HB1.out
  go_wp2_with (first
    | (go_at_call 25; refine (HP.out.x _).mono ?_; rintro e w' ⟨rfl, rfl⟩)
    | (go_at_call 22; refine (HP.out.z _).mono ?_; rintro e w' ⟨rfl, rfl⟩))
  go_ret
  refine ⟨str_of' ?_, ?_⟩
  · first | rfl | (simp only [← app_data]; done) | (simp only [← app_data]; rfl) | (simp only [app_data, List.append_assoc, List.cons_append, List.nil_append])
  exact below_quiet _ _ _ _ (below_box _ _)
set_option maxRecDepth 100000 in
set_option maxHeartbeats 4000000 in
theorem show_36 (s ix c d n ln pc : Int) (x y p q : Int) (aw bt : List UInt8) (HP : Hid (OpParts c x y 6 p q)) (HG : Hid (OpGives c x y 6 p q)) (x1 : (x != 1) = true) (HAW : Hid (Gives 24 #[.agg #[.int .i64 3, .int .i64 ix, .int .u8 c, .int .u8 d, .int .u16 n, .int .i64 ln]] (.string ⟨aw.toArray⟩))) (awl : aw.length ≤ 16) (HBT : Hid (Gives 20 #[.agg #[.int .i64 3, .int .i64 ix, .int .u8 c, .int .u8 d, .int .u16 n, .int .i64 ln], .string ⟨aw.toArray⟩] (.string ⟨bt.toArray⟩))) (btl : bt.length ≤ 40) :
    Gives 12 #[.agg #[.int .i64 3, .int .i64 ix, .int .u8 c, .int .u8 d, .int .u16 n, .int .i64 ln], .int .u16 pc] (.string ⟨(bt).toArray⟩) := by
  intro w
  have HB0 := Lib.hid (Blk.new w 26 [.int .i64 3, .int .i64 ix, .int .u8 c, .int .u8 d, .int .u16 n, .int .i64 ln])
  obtain ⟨k0, k1, k2, k3, k4, k5⟩ := cells6 HB0.out
  go_enter Try.func12, Try.ntmps12
  go_wp2_with (first
    | (go_at_call 25; refine (HP.out.x _).mono ?_; rintro e w' ⟨rfl, rfl⟩))
  refine wp_region_quiet_below (by kernel_rfl) (by kernel_rfl) ?_
  repeat (quiet_step (first | (go_at_call 25; exact HG.out.x.q) | (go_at_call 39; exact HG.out.y.q) | (go_at_call 22; exact HG.out.z.q) | (go_at_call 45; exact HG.out.p.q) | (go_at_call 43; exact HG.out.q.q) | (go_at_call 24; exact HAW.out.q) | (go_at_call 20; exact HBT.out.q)))
  refine wpQuiet_nil ?_
  intro _ hwq
  obtain ⟨⟨dq, osq⟩, hwr⟩ := hwq
  subst hwr
  have HB1 := Lib.hid (HB0.out.below_ (below_regrown _ dq osq))
  obtain ⟨m0, m1, m2, m3, m4, m5⟩ := cells6 HB1.out
  go_wp2_with (first
    | (go_at_call 25; refine (HP.out.x _).mono ?_; rintro e w' ⟨rfl, rfl⟩)
    | (go_at_call 22; refine (HP.out.z _).mono ?_; rintro e w' ⟨rfl, rfl⟩))
  go_ret
  refine ⟨str_of' ?_, ?_⟩
  · first | rfl | (simp only [← app_data]; done) | (simp only [← app_data]; rfl) | (simp only [app_data, List.append_assoc, List.cons_append, List.nil_append])
  exact below_quiet _ _ _ _ (below_box _ _)
set_option maxRecDepth 100000 in
set_option maxHeartbeats 4000000 in
theorem show_3 (s ix c d n ln pc : Int) (x y z p q : Int) (aw bt rz : List UInt8) (HP : Hid (OpParts c x y z p q)) (HG : Hid (OpGives c x y z p q)) (x1 : (x != 1) = true) (z6 : (z != 6) = true) (HAW : Hid (Gives 24 #[.agg #[.int .i64 3, .int .i64 ix, .int .u8 c, .int .u8 d, .int .u16 n, .int .i64 ln]] (.string ⟨aw.toArray⟩))) (awl : aw.length ≤ 16) (HBT : Hid (Gives 20 #[.agg #[.int .i64 3, .int .i64 ix, .int .u8 c, .int .u8 d, .int .u16 n, .int .i64 ln], .string ⟨aw.toArray⟩] (.string ⟨bt.toArray⟩))) (btl : bt.length ≤ 40) (HRZ : Hid (Gives 21 #[.agg #[.int .i64 3, .int .i64 ix, .int .u8 c, .int .u8 d, .int .u16 n, .int .i64 ln], .int .i64 z] (.string ⟨rz.toArray⟩))) (rzl : rz.length ≤ 16) :
    Gives 12 #[.agg #[.int .i64 3, .int .i64 ix, .int .u8 c, .int .u8 d, .int .u16 n, .int .i64 ln], .int .u16 pc] (.string ⟨(bt ++ ([44] : List UInt8) ++ rz).toArray⟩) := by
  intro w
  have HB0 := Lib.hid (Blk.new w 26 [.int .i64 3, .int .i64 ix, .int .u8 c, .int .u8 d, .int .u16 n, .int .i64 ln])
  obtain ⟨k0, k1, k2, k3, k4, k5⟩ := cells6 HB0.out
  go_enter Try.func12, Try.ntmps12
  have sa : ¬ 9223372036854775807 < 1 + rz.length := by omega
  have sb : ¬ 9223372036854775807 < bt.length + (1 + rz.length) := by omega
  go_wp2_with (first
    | (go_at_call 25; refine (HP.out.x _).mono ?_; rintro e w' ⟨rfl, rfl⟩))
  refine wp_region_quiet_below (by kernel_rfl) (by kernel_rfl) ?_
  repeat (quiet_step (first | (go_at_call 25; exact HG.out.x.q) | (go_at_call 39; exact HG.out.y.q) | (go_at_call 22; exact HG.out.z.q) | (go_at_call 45; exact HG.out.p.q) | (go_at_call 43; exact HG.out.q.q) | (go_at_call 24; exact HAW.out.q) | (go_at_call 20; exact HBT.out.q)))
  refine wpQuiet_nil ?_
  intro _ hwq
  obtain ⟨⟨dq, osq⟩, hwr⟩ := hwq
  subst hwr
  have HB1 := Lib.hid (HB0.out.below_ (below_regrown _ dq osq))
  obtain ⟨m0, m1, m2, m3, m4, m5⟩ := cells6 HB1.out
  go_wp2_with (first
    | (go_at_call 25; refine (HP.out.x _).mono ?_; rintro e w' ⟨rfl, rfl⟩)
    | (go_at_call 22; refine (HP.out.z _).mono ?_; rintro e w' ⟨rfl, rfl⟩))
  refine wp_region_quiet_below (by kernel_rfl) (by kernel_rfl) ?_
  repeat (quiet_step (first | (go_at_call 25; exact HG.out.x.q) | (go_at_call 39; exact HG.out.y.q) | (go_at_call 22; exact HG.out.z.q) | (go_at_call 45; exact HG.out.p.q) | (go_at_call 43; exact HG.out.q.q) | (go_at_call 21; exact HRZ.out.q)))
  refine wpQuiet_nil ?_
  intro _ hwq
  obtain ⟨⟨dr, osr⟩, hwr⟩ := hwq
  subst hwr
  go_wp2
  go_ret
  refine ⟨str_of' ?_, ?_⟩
  · first | rfl | (simp only [← app_data]; done) | (simp only [← app_data]; rfl) | (simp only [app_data, List.append_assoc, List.cons_append, List.nil_append])
  exact below_quiet _ _ _ _ (below_quiet _ _ _ _ (below_box _ _))
set_option maxRecDepth 100000 in
set_option maxHeartbeats 4000000 in
theorem show_4 (s ix c d n ln pc : Int) (x y z p q : Int) (xn : List UInt8) (HP : Hid (OpParts c x y z p q)) (HG : Hid (OpGives c x y z p q)) (HXN : Hid (Gives 26 #[.int .i64 ix] (.string ⟨xn.toArray⟩))) (xnl : xn.length ≤ 8) :
    Gives 12 #[.agg #[.int .i64 4, .int .i64 ix, .int .u8 c, .int .u8 d, .int .u16 n, .int .i64 ln], .int .u16 pc] (.string ⟨(([112, 114, 101, 102, 105, 120, 32] : List UInt8) ++ xn).toArray⟩) := by
  intro w
  have HB0 := Lib.hid (Blk.new w 26 [.int .i64 4, .int .i64 ix, .int .u8 c, .int .u8 d, .int .u16 n, .int .i64 ln])
  obtain ⟨k0, k1, k2, k3, k4, k5⟩ := cells6 HB0.out
  go_enter Try.func12, Try.ntmps12
  go_wp2_with (first
    | (go_at_call 25; refine (HP.out.x _).mono ?_; rintro e w' ⟨rfl, rfl⟩)
    | (go_at_call 26; refine (HXN.out _).mono ?_; rintro e w1 ⟨rfl, hb1⟩))
  go_ret
  refine ⟨str_of' ?_, ?_⟩
  · first | rfl | (simp only [← app_data]; done) | (simp only [← app_data]; rfl) | (simp only [app_data, List.append_assoc, List.cons_append, List.nil_append])
  exact (below_box _ _).trans (hb1.mono (by simp))
set_option maxRecDepth 100000 in
set_option maxHeartbeats 4000000 in
theorem show_0 (s ix c d n ln pc : Int) (x y z p q : Int) (pl : List UInt8) (HP : Hid (OpParts c x y z p q)) (HG : Hid (OpGives c x y z p q)) (HPL : Hid (Gives 27 #[.agg #[.int .i64 0, .int .i64 ix, .int .u8 c, .int .u8 d, .int .u16 n, .int .i64 ln], .int .u16 pc] (.string ⟨pl.toArray⟩))) (pll : pl.length ≤ 40) :
    Gives 12 #[.agg #[.int .i64 0, .int .i64 ix, .int .u8 c, .int .u8 d, .int .u16 n, .int .i64 ln], .int .u16 pc] (.string ⟨(pl).toArray⟩) := by
  intro w
  have HB0 := Lib.hid (Blk.new w 26 [.int .i64 0, .int .i64 ix, .int .u8 c, .int .u8 d, .int .u16 n, .int .i64 ln])
  obtain ⟨k0, k1, k2, k3, k4, k5⟩ := cells6 HB0.out
  go_enter Try.func12, Try.ntmps12
  go_wp2_with (first
    | (go_at_call 25; refine (HP.out.x _).mono ?_; rintro e w' ⟨rfl, rfl⟩)
    | (go_at_call 27; refine (HPL.out _).mono ?_; rintro e w1 ⟨rfl, hb1⟩))
  go_ret
  refine ⟨str_of' ?_, ?_⟩
  · first | rfl | (simp only [← app_data]; done) | (simp only [← app_data]; rfl) | (simp only [app_data, List.append_assoc, List.cons_append, List.nil_append])
  exact (below_box _ _).trans (hb1.mono (by simp))
set_option maxRecDepth 100000 in
set_option maxHeartbeats 4000000 in
theorem show_n (s ix c d n ln pc : Int) (x y z p q : Int) (HP : Hid (OpParts c x y z p q)) (HG : Hid (OpGives c x y z p q)) (n1 : (s == 1) = false) (n2 : (s == 2) = false) (n3 : (s == 3) = false) (n4 : (s == 4) = false) (n0 : (s == 0) = false) :
    Gives 12 #[.agg #[.int .i64 s, .int .i64 ix, .int .u8 c, .int .u8 d, .int .u16 n, .int .i64 ln], .int .u16 pc] (.string ⟨([]).toArray⟩) := by
  intro w
  have HB0 := Lib.hid (Blk.new w 26 [.int .i64 s, .int .i64 ix, .int .u8 c, .int .u8 d, .int .u16 n, .int .i64 ln])
  obtain ⟨k0, k1, k2, k3, k4, k5⟩ := cells6 HB0.out
  go_enter Try.func12, Try.ntmps12
  go_wp2_with (first
    | (go_at_call 25; refine (HP.out.x _).mono ?_; rintro e w' ⟨rfl, rfl⟩))
  go_ret
  refine ⟨str_of' ?_, ?_⟩
  · first | rfl | (simp only [← app_data]; done) | (simp only [← app_data]; rfl) | (simp only [app_data, List.append_assoc, List.cons_append, List.nil_append])
  exact below_box _ _
end Go.Proofs.Ytjkakmmhbciilaa
