/- op: the text of the last quarter, branch by branch. (printed by wip/gen/gen_opsh.py) -/
import Derived.Test.YtjkakmmhbciilaaOpFB
namespace Go.Proofs.Ytjkakmmhbciilaa
set_option linter.unusedSimpArgs false
set_option linter.unusedVariables false
open Go.RowKit Go.Sort
set_option maxRecDepth 100000 in
set_option maxHeartbeats 4000000 in
theorem last_0 (s ix c d n ln pc cdk : Int) (x y p q : Int) (cy : List UInt8) (HP : Hid (OpParts c x y 0 p q)) (HG : Hid (OpGives c x y 0 p q)) (HCY : Hid (Gives 61 #[.int .i64 y] (.string ⟨cy.toArray⟩))) (cyl : cy.length ≤ 8) :
    Gives 50 #[.agg #[.int .i64 s, .int .i64 ix, .int .u8 c, .int .u8 d, .int .u16 n, .int .i64 ln]] (.string ⟨([114, 101, 116, 32] ++ cy).toArray⟩) := by
  intro w
  go_enter Try.func50, Try.ntmps50
  go_wp2_with (first
    | (go_at_call 25; refine (HP.out.x _).mono ?_; rintro e w' ⟨rfl, rfl⟩)
    | (go_at_call 39; refine (HP.out.y _).mono ?_; rintro e w' ⟨rfl, rfl⟩)
    | (go_at_call 22; refine (HP.out.z _).mono ?_; rintro e w' ⟨rfl, rfl⟩)
    | (go_at_call 45; refine (HP.out.p _).mono ?_; rintro e w' ⟨rfl, rfl⟩)
    | (go_at_call 43; refine (HP.out.q _).mono ?_; rintro e w' ⟨rfl, rfl⟩)
    | (go_at_call 61; refine (HCY.out _).mono ?_; rintro e w1 ⟨rfl, hb1⟩))
  go_ret
  refine ⟨str_of' ?_, ?_⟩
  · first | rfl | (simp only [← app_data]; done) | (simp only [← app_data]; rfl)
  first | exact below_box _ _ | exact (below_box _ _).trans (hb1.mono (by simp))
set_option maxRecDepth 100000 in
set_option maxHeartbeats 4000000 in
theorem last_10 (s ix c d n ln pc cdk : Int) (x y p : Int) (pu : List UInt8) (HP : Hid (OpParts c x y 1 p 0)) (HG : Hid (OpGives c x y 1 p 0)) (HPU : Hid (Gives 63 #[.agg #[.int .i64 s, .int .i64 ix, .int .u8 c, .int .u8 d, .int .u16 n, .int .i64 ln], .int .i64 p] (.string ⟨pu.toArray⟩))) (pul : pu.length ≤ 8) :
    Gives 50 #[.agg #[.int .i64 s, .int .i64 ix, .int .u8 c, .int .u8 d, .int .u16 n, .int .i64 ln]] (.string ⟨([112, 111, 112, 32] ++ pu).toArray⟩) := by
  intro w
  have sz0 : ¬ 9223372036854775807 < 4 + pu.length := by omega
  obtain ⟨k0, k1, k2, k3, k4, k5⟩ := cells6 (Blk.new w 26 [.int .i64 s, .int .i64 ix, .int .u8 c, .int .u8 d, .int .u16 n, .int .i64 ln])
  go_enter Try.func50, Try.ntmps50
  go_wp2_with (first
    | (go_at_call 25; refine (HP.out.x _).mono ?_; rintro e w' ⟨rfl, rfl⟩)
    | (go_at_call 39; refine (HP.out.y _).mono ?_; rintro e w' ⟨rfl, rfl⟩)
    | (go_at_call 22; refine (HP.out.z _).mono ?_; rintro e w' ⟨rfl, rfl⟩)
    | (go_at_call 45; refine (HP.out.p _).mono ?_; rintro e w' ⟨rfl, rfl⟩)
    | (go_at_call 43; refine (HP.out.q _).mono ?_; rintro e w' ⟨rfl, rfl⟩)
    | (go_at_call 63; refine (HPU.out _).mono ?_; rintro e w1 ⟨rfl, hb1⟩))
  refine wp_region_quiet_below (by kernel_rfl) (by kernel_rfl) ?_
  repeat (quiet_step (first | (go_at_call 25; exact HG.out.x.q) | (go_at_call 39; exact HG.out.y.q) | (go_at_call 22; exact HG.out.z.q) | (go_at_call 45; exact HG.out.p.q) | (go_at_call 43; exact HG.out.q.q) | (go_at_call 63; exact HPU.out.q)))
  refine wpQuiet_nil ?_
  intro _ hwq
  obtain ⟨⟨dq, osq⟩, hwr⟩ := hwq
  subst hwr
  go_wp2
  go_ret
  refine ⟨str_of' ?_, ?_⟩
  · first | rfl | (simp only [← app_data]; done) | (simp only [← app_data]; rfl)
  exact below_quiet _ _ _ _ (below_box _ _)
set_option maxRecDepth 100000 in
set_option maxHeartbeats 4000000 in
theorem last_110 (s ix c d n ln pc cdk : Int) (x y : Int) (hl : List UInt8) (HP : Hid (OpParts c x y 1 0 1)) (HG : Hid (OpGives c x y 1 0 1)) (HHL : Hid (Gives 59 #[.agg #[.int .i64 s, .int .i64 ix, .int .u8 c, .int .u8 d, .int .u16 n, .int .i64 ln]] (.string ⟨hl.toArray⟩))) (hll : hl.length ≤ 8) :
    Gives 50 #[.agg #[.int .i64 s, .int .i64 ix, .int .u8 c, .int .u8 d, .int .u16 n, .int .i64 ln]] (.string ⟨([114, 101, 116]).toArray⟩) := by
  intro w
  obtain ⟨k0, k1, k2, k3, k4, k5⟩ := cells6 (Blk.new w 26 [.int .i64 s, .int .i64 ix, .int .u8 c, .int .u8 d, .int .u16 n, .int .i64 ln])
  have hix : ∀ u : World, (Instr.index 61 (.agg #[.string ⟨#[114, 101, 116]⟩, .string ⟨#[101, 120, 120]⟩, .string (⟨#[106, 112, 32]⟩ ++ ⟨hl.toArray⟩), .string (⟨#[108, 100, 32, 115, 112, 44]⟩ ++ ⟨hl.toArray⟩)]) (.int .i64 0)).run Try.prog u = .ok (.string ⟨#[114, 101, 116]⟩) u := fun _ => by kernel_rfl
  have sa0 : ¬ 9223372036854775807 < 3 + hl.length := by omega
  have sb0 : ¬ 9223372036854775807 < 6 + hl.length := by omega
  go_enter Try.func50, Try.ntmps50
  go_wp2_with (first
    | (go_at_call 25; refine (HP.out.x _).mono ?_; rintro e w' ⟨rfl, rfl⟩)
    | (go_at_call 39; refine (HP.out.y _).mono ?_; rintro e w' ⟨rfl, rfl⟩)
    | (go_at_call 22; refine (HP.out.z _).mono ?_; rintro e w' ⟨rfl, rfl⟩)
    | (go_at_call 45; refine (HP.out.p _).mono ?_; rintro e w' ⟨rfl, rfl⟩)
    | (go_at_call 43; refine (HP.out.q _).mono ?_; rintro e w' ⟨rfl, rfl⟩)
    | (go_at_call 59; refine (HHL.out _).mono ?_; rintro e w1 ⟨rfl, hb1⟩))
  refine wp_region_quiet_below (by kernel_rfl) (by kernel_rfl) ?_
  repeat (quiet_step (first | (go_at_call 25; exact HG.out.x.q) | (go_at_call 39; exact HG.out.y.q) | (go_at_call 22; exact HG.out.z.q) | (go_at_call 45; exact HG.out.p.q) | (go_at_call 43; exact HG.out.q.q) | (go_at_call 59; exact HHL.out.q)))
  refine wpQuiet_nil ?_
  intro _ hwq
  obtain ⟨⟨dq, osq⟩, hwr⟩ := hwq
  subst hwr
  go_wp2
  go_ret
  refine ⟨str_of' ?_, ?_⟩
  · first | rfl | (simp only [← app_data]; done) | (simp only [← app_data]; rfl)
  exact below_quiet _ _ _ _ (below_box _ _)
set_option maxRecDepth 100000 in
set_option maxHeartbeats 4000000 in
theorem last_111 (s ix c d n ln pc cdk : Int) (x y : Int) (hl : List UInt8) (HP : Hid (OpParts c x y 1 1 1)) (HG : Hid (OpGives c x y 1 1 1)) (HHL : Hid (Gives 59 #[.agg #[.int .i64 s, .int .i64 ix, .int .u8 c, .int .u8 d, .int .u16 n, .int .i64 ln]] (.string ⟨hl.toArray⟩))) (hll : hl.length ≤ 8) :
    Gives 50 #[.agg #[.int .i64 s, .int .i64 ix, .int .u8 c, .int .u8 d, .int .u16 n, .int .i64 ln]] (.string ⟨([101, 120, 120]).toArray⟩) := by
  intro w
  obtain ⟨k0, k1, k2, k3, k4, k5⟩ := cells6 (Blk.new w 26 [.int .i64 s, .int .i64 ix, .int .u8 c, .int .u8 d, .int .u16 n, .int .i64 ln])
  have hix : ∀ u : World, (Instr.index 61 (.agg #[.string ⟨#[114, 101, 116]⟩, .string ⟨#[101, 120, 120]⟩, .string (⟨#[106, 112, 32]⟩ ++ ⟨hl.toArray⟩), .string (⟨#[108, 100, 32, 115, 112, 44]⟩ ++ ⟨hl.toArray⟩)]) (.int .i64 1)).run Try.prog u = .ok (.string ⟨#[101, 120, 120]⟩) u := fun _ => by kernel_rfl
  have sa0 : ¬ 9223372036854775807 < 3 + hl.length := by omega
  have sb0 : ¬ 9223372036854775807 < 6 + hl.length := by omega
  go_enter Try.func50, Try.ntmps50
  go_wp2_with (first
    | (go_at_call 25; refine (HP.out.x _).mono ?_; rintro e w' ⟨rfl, rfl⟩)
    | (go_at_call 39; refine (HP.out.y _).mono ?_; rintro e w' ⟨rfl, rfl⟩)
    | (go_at_call 22; refine (HP.out.z _).mono ?_; rintro e w' ⟨rfl, rfl⟩)
    | (go_at_call 45; refine (HP.out.p _).mono ?_; rintro e w' ⟨rfl, rfl⟩)
    | (go_at_call 43; refine (HP.out.q _).mono ?_; rintro e w' ⟨rfl, rfl⟩)
    | (go_at_call 59; refine (HHL.out _).mono ?_; rintro e w1 ⟨rfl, hb1⟩))
  refine wp_region_quiet_below (by kernel_rfl) (by kernel_rfl) ?_
  repeat (quiet_step (first | (go_at_call 25; exact HG.out.x.q) | (go_at_call 39; exact HG.out.y.q) | (go_at_call 22; exact HG.out.z.q) | (go_at_call 45; exact HG.out.p.q) | (go_at_call 43; exact HG.out.q.q) | (go_at_call 59; exact HHL.out.q)))
  refine wpQuiet_nil ?_
  intro _ hwq
  obtain ⟨⟨dq, osq⟩, hwr⟩ := hwq
  subst hwr
  go_wp2
  go_ret
  refine ⟨str_of' ?_, ?_⟩
  · first | rfl | (simp only [← app_data]; done) | (simp only [← app_data]; rfl)
  exact below_quiet _ _ _ _ (below_box _ _)
set_option maxRecDepth 100000 in
set_option maxHeartbeats 4000000 in
theorem last_112 (s ix c d n ln pc cdk : Int) (x y : Int) (hl : List UInt8) (HP : Hid (OpParts c x y 1 2 1)) (HG : Hid (OpGives c x y 1 2 1)) (HHL : Hid (Gives 59 #[.agg #[.int .i64 s, .int .i64 ix, .int .u8 c, .int .u8 d, .int .u16 n, .int .i64 ln]] (.string ⟨hl.toArray⟩))) (hll : hl.length ≤ 8) :
    Gives 50 #[.agg #[.int .i64 s, .int .i64 ix, .int .u8 c, .int .u8 d, .int .u16 n, .int .i64 ln]] (.string ⟨([106, 112, 32] ++ hl).toArray⟩) := by
  intro w
  have sz0 : ¬ 9223372036854775807 < 3 + hl.length := by omega
  obtain ⟨k0, k1, k2, k3, k4, k5⟩ := cells6 (Blk.new w 26 [.int .i64 s, .int .i64 ix, .int .u8 c, .int .u8 d, .int .u16 n, .int .i64 ln])
  have hix : ∀ u : World, (Instr.index 61 (.agg #[.string ⟨#[114, 101, 116]⟩, .string ⟨#[101, 120, 120]⟩, .string (⟨#[106, 112, 32]⟩ ++ ⟨hl.toArray⟩), .string (⟨#[108, 100, 32, 115, 112, 44]⟩ ++ ⟨hl.toArray⟩)]) (.int .i64 2)).run Try.prog u = .ok (.string (⟨#[106, 112, 32]⟩ ++ ⟨hl.toArray⟩)) u := fun _ => by kernel_rfl
  have sa0 : ¬ 9223372036854775807 < 3 + hl.length := by omega
  have sb0 : ¬ 9223372036854775807 < 6 + hl.length := by omega
  go_enter Try.func50, Try.ntmps50
  go_wp2_with (first
    | (go_at_call 25; refine (HP.out.x _).mono ?_; rintro e w' ⟨rfl, rfl⟩)
    | (go_at_call 39; refine (HP.out.y _).mono ?_; rintro e w' ⟨rfl, rfl⟩)
    | (go_at_call 22; refine (HP.out.z _).mono ?_; rintro e w' ⟨rfl, rfl⟩)
    | (go_at_call 45; refine (HP.out.p _).mono ?_; rintro e w' ⟨rfl, rfl⟩)
    | (go_at_call 43; refine (HP.out.q _).mono ?_; rintro e w' ⟨rfl, rfl⟩)
    | (go_at_call 59; refine (HHL.out _).mono ?_; rintro e w1 ⟨rfl, hb1⟩))
  refine wp_region_quiet_below (by kernel_rfl) (by kernel_rfl) ?_
  repeat (quiet_step (first | (go_at_call 25; exact HG.out.x.q) | (go_at_call 39; exact HG.out.y.q) | (go_at_call 22; exact HG.out.z.q) | (go_at_call 45; exact HG.out.p.q) | (go_at_call 43; exact HG.out.q.q) | (go_at_call 59; exact HHL.out.q)))
  refine wpQuiet_nil ?_
  intro _ hwq
  obtain ⟨⟨dq, osq⟩, hwr⟩ := hwq
  subst hwr
  go_wp2
  go_ret
  refine ⟨str_of' ?_, ?_⟩
  · first | rfl | (simp only [← app_data]; done) | (simp only [← app_data]; rfl)
  exact below_quiet _ _ _ _ (below_box _ _)
set_option maxRecDepth 100000 in
set_option maxHeartbeats 4000000 in
theorem last_113 (s ix c d n ln pc cdk : Int) (x y : Int) (hl : List UInt8) (HP : Hid (OpParts c x y 1 3 1)) (HG : Hid (OpGives c x y 1 3 1)) (HHL : Hid (Gives 59 #[.agg #[.int .i64 s, .int .i64 ix, .int .u8 c, .int .u8 d, .int .u16 n, .int .i64 ln]] (.string ⟨hl.toArray⟩))) (hll : hl.length ≤ 8) :
    Gives 50 #[.agg #[.int .i64 s, .int .i64 ix, .int .u8 c, .int .u8 d, .int .u16 n, .int .i64 ln]] (.string ⟨([108, 100, 32, 115, 112, 44] ++ hl).toArray⟩) := by
  intro w
  have sz0 : ¬ 9223372036854775807 < 6 + hl.length := by omega
  obtain ⟨k0, k1, k2, k3, k4, k5⟩ := cells6 (Blk.new w 26 [.int .i64 s, .int .i64 ix, .int .u8 c, .int .u8 d, .int .u16 n, .int .i64 ln])
  have hix : ∀ u : World, (Instr.index 61 (.agg #[.string ⟨#[114, 101, 116]⟩, .string ⟨#[101, 120, 120]⟩, .string (⟨#[106, 112, 32]⟩ ++ ⟨hl.toArray⟩), .string (⟨#[108, 100, 32, 115, 112, 44]⟩ ++ ⟨hl.toArray⟩)]) (.int .i64 3)).run Try.prog u = .ok (.string (⟨#[108, 100, 32, 115, 112, 44]⟩ ++ ⟨hl.toArray⟩)) u := fun _ => by kernel_rfl
  have sa0 : ¬ 9223372036854775807 < 3 + hl.length := by omega
  have sb0 : ¬ 9223372036854775807 < 6 + hl.length := by omega
  go_enter Try.func50, Try.ntmps50
  go_wp2_with (first
    | (go_at_call 25; refine (HP.out.x _).mono ?_; rintro e w' ⟨rfl, rfl⟩)
    | (go_at_call 39; refine (HP.out.y _).mono ?_; rintro e w' ⟨rfl, rfl⟩)
    | (go_at_call 22; refine (HP.out.z _).mono ?_; rintro e w' ⟨rfl, rfl⟩)
    | (go_at_call 45; refine (HP.out.p _).mono ?_; rintro e w' ⟨rfl, rfl⟩)
    | (go_at_call 43; refine (HP.out.q _).mono ?_; rintro e w' ⟨rfl, rfl⟩)
    | (go_at_call 59; refine (HHL.out _).mono ?_; rintro e w1 ⟨rfl, hb1⟩))
  refine wp_region_quiet_below (by kernel_rfl) (by kernel_rfl) ?_
  repeat (quiet_step (first | (go_at_call 25; exact HG.out.x.q) | (go_at_call 39; exact HG.out.y.q) | (go_at_call 22; exact HG.out.z.q) | (go_at_call 45; exact HG.out.p.q) | (go_at_call 43; exact HG.out.q.q) | (go_at_call 59; exact HHL.out.q)))
  refine wpQuiet_nil ?_
  intro _ hwq
  obtain ⟨⟨dq, osq⟩, hwr⟩ := hwq
  subst hwr
  go_wp2
  go_ret
  refine ⟨str_of' ?_, ?_⟩
  · first | rfl | (simp only [← app_data]; done) | (simp only [← app_data]; rfl)
  exact below_quiet _ _ _ _ (below_box _ _)
set_option maxRecDepth 100000 in
set_option maxHeartbeats 4000000 in
theorem last_2 (s ix c d n ln pc cdk : Int) (x y p q : Int) (cy h4 : List UInt8) (HP : Hid (OpParts c x y 2 p q)) (HG : Hid (OpGives c x y 2 p q)) (HCY : Hid (Gives 61 #[.int .i64 y] (.string ⟨cy.toArray⟩))) (cyl : cy.length ≤ 8) (HH4 : Hid (Gives 46 #[.int .u16 n, .int .i64 4] (.string ⟨h4.toArray⟩))) (h4l : h4.length ≤ 8) :
    Gives 50 #[.agg #[.int .i64 s, .int .i64 ix, .int .u8 c, .int .u8 d, .int .u16 n, .int .i64 ln]] (.string ⟨([106, 112, 32] ++ cy ++ [44] ++ h4).toArray⟩) := by
  intro w
  have sz0 : ¬ 9223372036854775807 < 3 + cy.length := by omega
  have sz1 : ¬ 9223372036854775807 < 3 + cy.length + 1 := by omega
  have sz2 : ¬ 9223372036854775807 < 3 + cy.length + 1 + h4.length := by omega
  obtain ⟨k0, k1, k2, k3, k4, k5⟩ := cells6 (Blk.new w 26 [.int .i64 s, .int .i64 ix, .int .u8 c, .int .u8 d, .int .u16 n, .int .i64 ln])
  go_enter Try.func50, Try.ntmps50
  go_wp2_with (first
    | (go_at_call 25; refine (HP.out.x _).mono ?_; rintro e w' ⟨rfl, rfl⟩)
    | (go_at_call 39; refine (HP.out.y _).mono ?_; rintro e w' ⟨rfl, rfl⟩)
    | (go_at_call 22; refine (HP.out.z _).mono ?_; rintro e w' ⟨rfl, rfl⟩)
    | (go_at_call 45; refine (HP.out.p _).mono ?_; rintro e w' ⟨rfl, rfl⟩)
    | (go_at_call 43; refine (HP.out.q _).mono ?_; rintro e w' ⟨rfl, rfl⟩)
    | (go_at_call 61; refine (HCY.out _).mono ?_; rintro e w1 ⟨rfl, hb1⟩)
    | (go_at_call 46; refine (HH4.out _).mono ?_; rintro e w1 ⟨rfl, hb1⟩))
  refine wp_region_quiet_below (by kernel_rfl) (by kernel_rfl) ?_
  repeat (quiet_step (first | (go_at_call 25; exact HG.out.x.q) | (go_at_call 39; exact HG.out.y.q) | (go_at_call 22; exact HG.out.z.q) | (go_at_call 45; exact HG.out.p.q) | (go_at_call 43; exact HG.out.q.q) | (go_at_call 61; exact HCY.out.q) | (go_at_call_of 46 (Value.int .i64 4); exact HH4.out.q)))
  refine wpQuiet_nil ?_
  intro _ hwq
  obtain ⟨⟨dq, osq⟩, hwr⟩ := hwq
  subst hwr
  go_wp2
  go_ret
  refine ⟨str_of' ?_, ?_⟩
  · first | rfl | (simp only [← app_data]; done) | (simp only [← app_data]; rfl)
  exact below_quiet _ _ _ _ (below_box _ _)
set_option maxRecDepth 100000 in
set_option maxHeartbeats 4000000 in
theorem last_30 (s ix c d n ln pc cdk : Int) (x p q : Int) (h4 h2 hl : List UInt8) (HP : Hid (OpParts c x 0 3 p q)) (HG : Hid (OpGives c x 0 3 p q)) (HH4 : Hid (Gives 46 #[.int .u16 n, .int .i64 4] (.string ⟨h4.toArray⟩))) (h4l : h4.length ≤ 8) (HH2 : Hid (Gives 46 #[.int .u16 n, .int .i64 2] (.string ⟨h2.toArray⟩))) (h2l : h2.length ≤ 8) (HHL : Hid (Gives 59 #[.agg #[.int .i64 s, .int .i64 ix, .int .u8 c, .int .u8 d, .int .u16 n, .int .i64 ln]] (.string ⟨hl.toArray⟩))) (hll : hl.length ≤ 8) :
    Gives 50 #[.agg #[.int .i64 s, .int .i64 ix, .int .u8 c, .int .u8 d, .int .u16 n, .int .i64 ln]] (.string ⟨([106, 112, 32] ++ h4).toArray⟩) := by
  intro w
  have sz0 : ¬ 9223372036854775807 < 3 + h4.length := by omega
  obtain ⟨k0, k1, k2, k3, k4, k5⟩ := cells6 (Blk.new w 26 [.int .i64 s, .int .i64 ix, .int .u8 c, .int .u8 d, .int .u16 n, .int .i64 ln])
  have hix : ∀ u : World, (Instr.index 57 (.agg #[.string (⟨#[106, 112, 32]⟩ ++ ⟨h4.toArray⟩), .string ⟨#[]⟩, .string ((⟨#[111, 117, 116, 32, 40]⟩ ++ ⟨h2.toArray⟩) ++ ⟨#[41, 44, 97]⟩), .string ((⟨#[105, 110, 32, 97, 44, 40]⟩ ++ ⟨h2.toArray⟩) ++ ⟨#[41]⟩), .string (⟨#[101, 120, 32, 40, 115, 112, 41, 44]⟩ ++ ⟨hl.toArray⟩), .string ⟨#[101, 120, 32, 100, 101, 44, 104, 108]⟩, .string ⟨#[100, 105]⟩, .string ⟨#[101, 105]⟩]) (.int .i64 0)).run Try.prog u = .ok (.string (⟨#[106, 112, 32]⟩ ++ ⟨h4.toArray⟩)) u := fun _ => by kernel_rfl
  have sc0 : ¬ 9223372036854775807 < 5 + h2.length := by omega
  have sc1 : ¬ 9223372036854775807 < 5 + h2.length + 3 := by omega
  have sd0 : ¬ 9223372036854775807 < 6 + h2.length := by omega
  have sd1 : ¬ 9223372036854775807 < 6 + h2.length + 1 := by omega
  have se0 : ¬ 9223372036854775807 < 8 + hl.length := by omega
  go_enter Try.func50, Try.ntmps50
  go_wp2_with (first
    | (go_at_call 25; refine (HP.out.x _).mono ?_; rintro e w' ⟨rfl, rfl⟩)
    | (go_at_call 39; refine (HP.out.y _).mono ?_; rintro e w' ⟨rfl, rfl⟩)
    | (go_at_call 22; refine (HP.out.z _).mono ?_; rintro e w' ⟨rfl, rfl⟩)
    | (go_at_call 45; refine (HP.out.p _).mono ?_; rintro e w' ⟨rfl, rfl⟩)
    | (go_at_call 43; refine (HP.out.q _).mono ?_; rintro e w' ⟨rfl, rfl⟩)
    | (go_at_call 46; refine (HH4.out _).mono ?_; rintro e w1 ⟨rfl, hb1⟩)
    | (go_at_call 46; refine (HH2.out _).mono ?_; rintro e w1 ⟨rfl, hb1⟩)
    | (go_at_call 59; refine (HHL.out _).mono ?_; rintro e w1 ⟨rfl, hb1⟩))
  refine wp_region_quiet_below (by kernel_rfl) (by kernel_rfl) ?_
  repeat (quiet_step (first | (go_at_call 25; exact HG.out.x.q) | (go_at_call 39; exact HG.out.y.q) | (go_at_call 22; exact HG.out.z.q) | (go_at_call 45; exact HG.out.p.q) | (go_at_call 43; exact HG.out.q.q) | (go_at_call_of 46 (Value.int .i64 4); exact HH4.out.q) | (go_at_call_of 46 (Value.int .i64 2); exact HH2.out.q) | (go_at_call 59; exact HHL.out.q)))
  refine wpQuiet_nil ?_
  intro _ hwq
  obtain ⟨⟨dq, osq⟩, hwr⟩ := hwq
  subst hwr
  go_wp2
  go_ret
  refine ⟨str_of' ?_, ?_⟩
  · first | rfl | (simp only [← app_data]; done) | (simp only [← app_data]; rfl)
  exact below_quiet _ _ _ _ (below_box _ _)
set_option maxRecDepth 100000 in
set_option maxHeartbeats 4000000 in
theorem last_31 (s ix c d n ln pc cdk : Int) (x p q : Int) (h4 h2 hl : List UInt8) (HP : Hid (OpParts c x 1 3 p q)) (HG : Hid (OpGives c x 1 3 p q)) (HH4 : Hid (Gives 46 #[.int .u16 n, .int .i64 4] (.string ⟨h4.toArray⟩))) (h4l : h4.length ≤ 8) (HH2 : Hid (Gives 46 #[.int .u16 n, .int .i64 2] (.string ⟨h2.toArray⟩))) (h2l : h2.length ≤ 8) (HHL : Hid (Gives 59 #[.agg #[.int .i64 s, .int .i64 ix, .int .u8 c, .int .u8 d, .int .u16 n, .int .i64 ln]] (.string ⟨hl.toArray⟩))) (hll : hl.length ≤ 8) :
    Gives 50 #[.agg #[.int .i64 s, .int .i64 ix, .int .u8 c, .int .u8 d, .int .u16 n, .int .i64 ln]] (.string ⟨([]).toArray⟩) := by
  intro w
  obtain ⟨k0, k1, k2, k3, k4, k5⟩ := cells6 (Blk.new w 26 [.int .i64 s, .int .i64 ix, .int .u8 c, .int .u8 d, .int .u16 n, .int .i64 ln])
  have hix : ∀ u : World, (Instr.index 57 (.agg #[.string (⟨#[106, 112, 32]⟩ ++ ⟨h4.toArray⟩), .string ⟨#[]⟩, .string ((⟨#[111, 117, 116, 32, 40]⟩ ++ ⟨h2.toArray⟩) ++ ⟨#[41, 44, 97]⟩), .string ((⟨#[105, 110, 32, 97, 44, 40]⟩ ++ ⟨h2.toArray⟩) ++ ⟨#[41]⟩), .string (⟨#[101, 120, 32, 40, 115, 112, 41, 44]⟩ ++ ⟨hl.toArray⟩), .string ⟨#[101, 120, 32, 100, 101, 44, 104, 108]⟩, .string ⟨#[100, 105]⟩, .string ⟨#[101, 105]⟩]) (.int .i64 1)).run Try.prog u = .ok (.string ⟨#[]⟩) u := fun _ => by kernel_rfl
  have sa0 : ¬ 9223372036854775807 < 3 + h4.length := by omega
  have sc0 : ¬ 9223372036854775807 < 5 + h2.length := by omega
  have sc1 : ¬ 9223372036854775807 < 5 + h2.length + 3 := by omega
  have sd0 : ¬ 9223372036854775807 < 6 + h2.length := by omega
  have sd1 : ¬ 9223372036854775807 < 6 + h2.length + 1 := by omega
  have se0 : ¬ 9223372036854775807 < 8 + hl.length := by omega
  go_enter Try.func50, Try.ntmps50
  go_wp2_with (first
    | (go_at_call 25; refine (HP.out.x _).mono ?_; rintro e w' ⟨rfl, rfl⟩)
    | (go_at_call 39; refine (HP.out.y _).mono ?_; rintro e w' ⟨rfl, rfl⟩)
    | (go_at_call 22; refine (HP.out.z _).mono ?_; rintro e w' ⟨rfl, rfl⟩)
    | (go_at_call 45; refine (HP.out.p _).mono ?_; rintro e w' ⟨rfl, rfl⟩)
    | (go_at_call 43; refine (HP.out.q _).mono ?_; rintro e w' ⟨rfl, rfl⟩)
    | (go_at_call 46; refine (HH4.out _).mono ?_; rintro e w1 ⟨rfl, hb1⟩)
    | (go_at_call 46; refine (HH2.out _).mono ?_; rintro e w1 ⟨rfl, hb1⟩)
    | (go_at_call 59; refine (HHL.out _).mono ?_; rintro e w1 ⟨rfl, hb1⟩))
  refine wp_region_quiet_below (by kernel_rfl) (by kernel_rfl) ?_
  repeat (quiet_step (first | (go_at_call 25; exact HG.out.x.q) | (go_at_call 39; exact HG.out.y.q) | (go_at_call 22; exact HG.out.z.q) | (go_at_call 45; exact HG.out.p.q) | (go_at_call 43; exact HG.out.q.q) | (go_at_call_of 46 (Value.int .i64 4); exact HH4.out.q) | (go_at_call_of 46 (Value.int .i64 2); exact HH2.out.q) | (go_at_call 59; exact HHL.out.q)))
  refine wpQuiet_nil ?_
  intro _ hwq
  obtain ⟨⟨dq, osq⟩, hwr⟩ := hwq
  subst hwr
  go_wp2
  go_ret
  refine ⟨str_of' ?_, ?_⟩
  · first | rfl | (simp only [← app_data]; done) | (simp only [← app_data]; rfl)
  exact below_quiet _ _ _ _ (below_box _ _)
set_option maxRecDepth 100000 in
set_option maxHeartbeats 4000000 in
theorem last_32 (s ix c d n ln pc cdk : Int) (x p q : Int) (h4 h2 hl : List UInt8) (HP : Hid (OpParts c x 2 3 p q)) (HG : Hid (OpGives c x 2 3 p q)) (HH4 : Hid (Gives 46 #[.int .u16 n, .int .i64 4] (.string ⟨h4.toArray⟩))) (h4l : h4.length ≤ 8) (HH2 : Hid (Gives 46 #[.int .u16 n, .int .i64 2] (.string ⟨h2.toArray⟩))) (h2l : h2.length ≤ 8) (HHL : Hid (Gives 59 #[.agg #[.int .i64 s, .int .i64 ix, .int .u8 c, .int .u8 d, .int .u16 n, .int .i64 ln]] (.string ⟨hl.toArray⟩))) (hll : hl.length ≤ 8) :
    Gives 50 #[.agg #[.int .i64 s, .int .i64 ix, .int .u8 c, .int .u8 d, .int .u16 n, .int .i64 ln]] (.string ⟨([111, 117, 116, 32, 40] ++ h2 ++ [41, 44, 97]).toArray⟩) := by
  intro w
  have sz0 : ¬ 9223372036854775807 < 5 + h2.length := by omega
  have sz1 : ¬ 9223372036854775807 < 5 + h2.length + 3 := by omega
  obtain ⟨k0, k1, k2, k3, k4, k5⟩ := cells6 (Blk.new w 26 [.int .i64 s, .int .i64 ix, .int .u8 c, .int .u8 d, .int .u16 n, .int .i64 ln])
  have hix : ∀ u : World, (Instr.index 57 (.agg #[.string (⟨#[106, 112, 32]⟩ ++ ⟨h4.toArray⟩), .string ⟨#[]⟩, .string ((⟨#[111, 117, 116, 32, 40]⟩ ++ ⟨h2.toArray⟩) ++ ⟨#[41, 44, 97]⟩), .string ((⟨#[105, 110, 32, 97, 44, 40]⟩ ++ ⟨h2.toArray⟩) ++ ⟨#[41]⟩), .string (⟨#[101, 120, 32, 40, 115, 112, 41, 44]⟩ ++ ⟨hl.toArray⟩), .string ⟨#[101, 120, 32, 100, 101, 44, 104, 108]⟩, .string ⟨#[100, 105]⟩, .string ⟨#[101, 105]⟩]) (.int .i64 2)).run Try.prog u = .ok (.string ((⟨#[111, 117, 116, 32, 40]⟩ ++ ⟨h2.toArray⟩) ++ ⟨#[41, 44, 97]⟩)) u := fun _ => by kernel_rfl
  have sa0 : ¬ 9223372036854775807 < 3 + h4.length := by omega
  have sd0 : ¬ 9223372036854775807 < 6 + h2.length := by omega
  have sd1 : ¬ 9223372036854775807 < 6 + h2.length + 1 := by omega
  have se0 : ¬ 9223372036854775807 < 8 + hl.length := by omega
  go_enter Try.func50, Try.ntmps50
  go_wp2_with (first
    | (go_at_call 25; refine (HP.out.x _).mono ?_; rintro e w' ⟨rfl, rfl⟩)
    | (go_at_call 39; refine (HP.out.y _).mono ?_; rintro e w' ⟨rfl, rfl⟩)
    | (go_at_call 22; refine (HP.out.z _).mono ?_; rintro e w' ⟨rfl, rfl⟩)
    | (go_at_call 45; refine (HP.out.p _).mono ?_; rintro e w' ⟨rfl, rfl⟩)
    | (go_at_call 43; refine (HP.out.q _).mono ?_; rintro e w' ⟨rfl, rfl⟩)
    | (go_at_call 46; refine (HH4.out _).mono ?_; rintro e w1 ⟨rfl, hb1⟩)
    | (go_at_call 46; refine (HH2.out _).mono ?_; rintro e w1 ⟨rfl, hb1⟩)
    | (go_at_call 59; refine (HHL.out _).mono ?_; rintro e w1 ⟨rfl, hb1⟩))
  refine wp_region_quiet_below (by kernel_rfl) (by kernel_rfl) ?_
  repeat (quiet_step (first | (go_at_call 25; exact HG.out.x.q) | (go_at_call 39; exact HG.out.y.q) | (go_at_call 22; exact HG.out.z.q) | (go_at_call 45; exact HG.out.p.q) | (go_at_call 43; exact HG.out.q.q) | (go_at_call_of 46 (Value.int .i64 4); exact HH4.out.q) | (go_at_call_of 46 (Value.int .i64 2); exact HH2.out.q) | (go_at_call 59; exact HHL.out.q)))
  refine wpQuiet_nil ?_
  intro _ hwq
  obtain ⟨⟨dq, osq⟩, hwr⟩ := hwq
  subst hwr
  go_wp2
  go_ret
  refine ⟨str_of' ?_, ?_⟩
  · first | rfl | (simp only [← app_data]; done) | (simp only [← app_data]; rfl)
  exact below_quiet _ _ _ _ (below_box _ _)
set_option maxRecDepth 100000 in
set_option maxHeartbeats 4000000 in
theorem last_33 (s ix c d n ln pc cdk : Int) (x p q : Int) (h4 h2 hl : List UInt8) (HP : Hid (OpParts c x 3 3 p q)) (HG : Hid (OpGives c x 3 3 p q)) (HH4 : Hid (Gives 46 #[.int .u16 n, .int .i64 4] (.string ⟨h4.toArray⟩))) (h4l : h4.length ≤ 8) (HH2 : Hid (Gives 46 #[.int .u16 n, .int .i64 2] (.string ⟨h2.toArray⟩))) (h2l : h2.length ≤ 8) (HHL : Hid (Gives 59 #[.agg #[.int .i64 s, .int .i64 ix, .int .u8 c, .int .u8 d, .int .u16 n, .int .i64 ln]] (.string ⟨hl.toArray⟩))) (hll : hl.length ≤ 8) :
    Gives 50 #[.agg #[.int .i64 s, .int .i64 ix, .int .u8 c, .int .u8 d, .int .u16 n, .int .i64 ln]] (.string ⟨([105, 110, 32, 97, 44, 40] ++ h2 ++ [41]).toArray⟩) := by
  intro w
  have sz0 : ¬ 9223372036854775807 < 6 + h2.length := by omega
  have sz1 : ¬ 9223372036854775807 < 6 + h2.length + 1 := by omega
  obtain ⟨k0, k1, k2, k3, k4, k5⟩ := cells6 (Blk.new w 26 [.int .i64 s, .int .i64 ix, .int .u8 c, .int .u8 d, .int .u16 n, .int .i64 ln])
  have hix : ∀ u : World, (Instr.index 57 (.agg #[.string (⟨#[106, 112, 32]⟩ ++ ⟨h4.toArray⟩), .string ⟨#[]⟩, .string ((⟨#[111, 117, 116, 32, 40]⟩ ++ ⟨h2.toArray⟩) ++ ⟨#[41, 44, 97]⟩), .string ((⟨#[105, 110, 32, 97, 44, 40]⟩ ++ ⟨h2.toArray⟩) ++ ⟨#[41]⟩), .string (⟨#[101, 120, 32, 40, 115, 112, 41, 44]⟩ ++ ⟨hl.toArray⟩), .string ⟨#[101, 120, 32, 100, 101, 44, 104, 108]⟩, .string ⟨#[100, 105]⟩, .string ⟨#[101, 105]⟩]) (.int .i64 3)).run Try.prog u = .ok (.string ((⟨#[105, 110, 32, 97, 44, 40]⟩ ++ ⟨h2.toArray⟩) ++ ⟨#[41]⟩)) u := fun _ => by kernel_rfl
  have sa0 : ¬ 9223372036854775807 < 3 + h4.length := by omega
  have sc0 : ¬ 9223372036854775807 < 5 + h2.length := by omega
  have sc1 : ¬ 9223372036854775807 < 5 + h2.length + 3 := by omega
  have se0 : ¬ 9223372036854775807 < 8 + hl.length := by omega
  go_enter Try.func50, Try.ntmps50
  go_wp2_with (first
    | (go_at_call 25; refine (HP.out.x _).mono ?_; rintro e w' ⟨rfl, rfl⟩)
    | (go_at_call 39; refine (HP.out.y _).mono ?_; rintro e w' ⟨rfl, rfl⟩)
    | (go_at_call 22; refine (HP.out.z _).mono ?_; rintro e w' ⟨rfl, rfl⟩)
    | (go_at_call 45; refine (HP.out.p _).mono ?_; rintro e w' ⟨rfl, rfl⟩)
    | (go_at_call 43; refine (HP.out.q _).mono ?_; rintro e w' ⟨rfl, rfl⟩)
    | (go_at_call 46; refine (HH4.out _).mono ?_; rintro e w1 ⟨rfl, hb1⟩)
    | (go_at_call 46; refine (HH2.out _).mono ?_; rintro e w1 ⟨rfl, hb1⟩)
    | (go_at_call 59; refine (HHL.out _).mono ?_; rintro e w1 ⟨rfl, hb1⟩))
  refine wp_region_quiet_below (by kernel_rfl) (by kernel_rfl) ?_
  repeat (quiet_step (first | (go_at_call 25; exact HG.out.x.q) | (go_at_call 39; exact HG.out.y.q) | (go_at_call 22; exact HG.out.z.q) | (go_at_call 45; exact HG.out.p.q) | (go_at_call 43; exact HG.out.q.q) | (go_at_call_of 46 (Value.int .i64 4); exact HH4.out.q) | (go_at_call_of 46 (Value.int .i64 2); exact HH2.out.q) | (go_at_call 59; exact HHL.out.q)))
  refine wpQuiet_nil ?_
  intro _ hwq
  obtain ⟨⟨dq, osq⟩, hwr⟩ := hwq
  subst hwr
  go_wp2
  go_ret
  refine ⟨str_of' ?_, ?_⟩
  · first | rfl | (simp only [← app_data]; done) | (simp only [← app_data]; rfl)
  exact below_quiet _ _ _ _ (below_box _ _)
set_option maxRecDepth 100000 in
set_option maxHeartbeats 4000000 in
theorem last_34 (s ix c d n ln pc cdk : Int) (x p q : Int) (h4 h2 hl : List UInt8) (HP : Hid (OpParts c x 4 3 p q)) (HG : Hid (OpGives c x 4 3 p q)) (HH4 : Hid (Gives 46 #[.int .u16 n, .int .i64 4] (.string ⟨h4.toArray⟩))) (h4l : h4.length ≤ 8) (HH2 : Hid (Gives 46 #[.int .u16 n, .int .i64 2] (.string ⟨h2.toArray⟩))) (h2l : h2.length ≤ 8) (HHL : Hid (Gives 59 #[.agg #[.int .i64 s, .int .i64 ix, .int .u8 c, .int .u8 d, .int .u16 n, .int .i64 ln]] (.string ⟨hl.toArray⟩))) (hll : hl.length ≤ 8) :
    Gives 50 #[.agg #[.int .i64 s, .int .i64 ix, .int .u8 c, .int .u8 d, .int .u16 n, .int .i64 ln]] (.string ⟨([101, 120, 32, 40, 115, 112, 41, 44] ++ hl).toArray⟩) := by
  intro w
  have sz0 : ¬ 9223372036854775807 < 8 + hl.length := by omega
  obtain ⟨k0, k1, k2, k3, k4, k5⟩ := cells6 (Blk.new w 26 [.int .i64 s, .int .i64 ix, .int .u8 c, .int .u8 d, .int .u16 n, .int .i64 ln])
  have hix : ∀ u : World, (Instr.index 57 (.agg #[.string (⟨#[106, 112, 32]⟩ ++ ⟨h4.toArray⟩), .string ⟨#[]⟩, .string ((⟨#[111, 117, 116, 32, 40]⟩ ++ ⟨h2.toArray⟩) ++ ⟨#[41, 44, 97]⟩), .string ((⟨#[105, 110, 32, 97, 44, 40]⟩ ++ ⟨h2.toArray⟩) ++ ⟨#[41]⟩), .string (⟨#[101, 120, 32, 40, 115, 112, 41, 44]⟩ ++ ⟨hl.toArray⟩), .string ⟨#[101, 120, 32, 100, 101, 44, 104, 108]⟩, .string ⟨#[100, 105]⟩, .string ⟨#[101, 105]⟩]) (.int .i64 4)).run Try.prog u = .ok (.string (⟨#[101, 120, 32, 40, 115, 112, 41, 44]⟩ ++ ⟨hl.toArray⟩)) u := fun _ => by kernel_rfl
  have sa0 : ¬ 9223372036854775807 < 3 + h4.length := by omega
  have sc0 : ¬ 9223372036854775807 < 5 + h2.length := by omega
  have sc1 : ¬ 9223372036854775807 < 5 + h2.length + 3 := by omega
  have sd0 : ¬ 9223372036854775807 < 6 + h2.length := by omega
  have sd1 : ¬ 9223372036854775807 < 6 + h2.length + 1 := by omega
  go_enter Try.func50, Try.ntmps50
  go_wp2_with (first
    | (go_at_call 25; refine (HP.out.x _).mono ?_; rintro e w' ⟨rfl, rfl⟩)
    | (go_at_call 39; refine (HP.out.y _).mono ?_; rintro e w' ⟨rfl, rfl⟩)
    | (go_at_call 22; refine (HP.out.z _).mono ?_; rintro e w' ⟨rfl, rfl⟩)
    | (go_at_call 45; refine (HP.out.p _).mono ?_; rintro e w' ⟨rfl, rfl⟩)
    | (go_at_call 43; refine (HP.out.q _).mono ?_; rintro e w' ⟨rfl, rfl⟩)
    | (go_at_call 46; refine (HH4.out _).mono ?_; rintro e w1 ⟨rfl, hb1⟩)
    | (go_at_call 46; refine (HH2.out _).mono ?_; rintro e w1 ⟨rfl, hb1⟩)
    | (go_at_call 59; refine (HHL.out _).mono ?_; rintro e w1 ⟨rfl, hb1⟩))
  refine wp_region_quiet_below (by kernel_rfl) (by kernel_rfl) ?_
  repeat (quiet_step (first | (go_at_call 25; exact HG.out.x.q) | (go_at_call 39; exact HG.out.y.q) | (go_at_call 22; exact HG.out.z.q) | (go_at_call 45; exact HG.out.p.q) | (go_at_call 43; exact HG.out.q.q) | (go_at_call_of 46 (Value.int .i64 4); exact HH4.out.q) | (go_at_call_of 46 (Value.int .i64 2); exact HH2.out.q) | (go_at_call 59; exact HHL.out.q)))
  refine wpQuiet_nil ?_
  intro _ hwq
  obtain ⟨⟨dq, osq⟩, hwr⟩ := hwq
  subst hwr
  go_wp2
  go_ret
  refine ⟨str_of' ?_, ?_⟩
  · first | rfl | (simp only [← app_data]; done) | (simp only [← app_data]; rfl)
  exact below_quiet _ _ _ _ (below_box _ _)
set_option maxRecDepth 100000 in
set_option maxHeartbeats 4000000 in
theorem last_35 (s ix c d n ln pc cdk : Int) (x p q : Int) (h4 h2 hl : List UInt8) (HP : Hid (OpParts c x 5 3 p q)) (HG : Hid (OpGives c x 5 3 p q)) (HH4 : Hid (Gives 46 #[.int .u16 n, .int .i64 4] (.string ⟨h4.toArray⟩))) (h4l : h4.length ≤ 8) (HH2 : Hid (Gives 46 #[.int .u16 n, .int .i64 2] (.string ⟨h2.toArray⟩))) (h2l : h2.length ≤ 8) (HHL : Hid (Gives 59 #[.agg #[.int .i64 s, .int .i64 ix, .int .u8 c, .int .u8 d, .int .u16 n, .int .i64 ln]] (.string ⟨hl.toArray⟩))) (hll : hl.length ≤ 8) :
    Gives 50 #[.agg #[.int .i64 s, .int .i64 ix, .int .u8 c, .int .u8 d, .int .u16 n, .int .i64 ln]] (.string ⟨([101, 120, 32, 100, 101, 44, 104, 108]).toArray⟩) := by
  intro w
  obtain ⟨k0, k1, k2, k3, k4, k5⟩ := cells6 (Blk.new w 26 [.int .i64 s, .int .i64 ix, .int .u8 c, .int .u8 d, .int .u16 n, .int .i64 ln])
  have hix : ∀ u : World, (Instr.index 57 (.agg #[.string (⟨#[106, 112, 32]⟩ ++ ⟨h4.toArray⟩), .string ⟨#[]⟩, .string ((⟨#[111, 117, 116, 32, 40]⟩ ++ ⟨h2.toArray⟩) ++ ⟨#[41, 44, 97]⟩), .string ((⟨#[105, 110, 32, 97, 44, 40]⟩ ++ ⟨h2.toArray⟩) ++ ⟨#[41]⟩), .string (⟨#[101, 120, 32, 40, 115, 112, 41, 44]⟩ ++ ⟨hl.toArray⟩), .string ⟨#[101, 120, 32, 100, 101, 44, 104, 108]⟩, .string ⟨#[100, 105]⟩, .string ⟨#[101, 105]⟩]) (.int .i64 5)).run Try.prog u = .ok (.string ⟨#[101, 120, 32, 100, 101, 44, 104, 108]⟩) u := fun _ => by kernel_rfl
  have sa0 : ¬ 9223372036854775807 < 3 + h4.length := by omega
  have sc0 : ¬ 9223372036854775807 < 5 + h2.length := by omega
  have sc1 : ¬ 9223372036854775807 < 5 + h2.length + 3 := by omega
  have sd0 : ¬ 9223372036854775807 < 6 + h2.length := by omega
  have sd1 : ¬ 9223372036854775807 < 6 + h2.length + 1 := by omega
  have se0 : ¬ 9223372036854775807 < 8 + hl.length := by omega
  go_enter Try.func50, Try.ntmps50
  go_wp2_with (first
    | (go_at_call 25; refine (HP.out.x _).mono ?_; rintro e w' ⟨rfl, rfl⟩)
    | (go_at_call 39; refine (HP.out.y _).mono ?_; rintro e w' ⟨rfl, rfl⟩)
    | (go_at_call 22; refine (HP.out.z _).mono ?_; rintro e w' ⟨rfl, rfl⟩)
    | (go_at_call 45; refine (HP.out.p _).mono ?_; rintro e w' ⟨rfl, rfl⟩)
    | (go_at_call 43; refine (HP.out.q _).mono ?_; rintro e w' ⟨rfl, rfl⟩)
    | (go_at_call 46; refine (HH4.out _).mono ?_; rintro e w1 ⟨rfl, hb1⟩)
    | (go_at_call 46; refine (HH2.out _).mono ?_; rintro e w1 ⟨rfl, hb1⟩)
    | (go_at_call 59; refine (HHL.out _).mono ?_; rintro e w1 ⟨rfl, hb1⟩))
  refine wp_region_quiet_below (by kernel_rfl) (by kernel_rfl) ?_
  repeat (quiet_step (first | (go_at_call 25; exact HG.out.x.q) | (go_at_call 39; exact HG.out.y.q) | (go_at_call 22; exact HG.out.z.q) | (go_at_call 45; exact HG.out.p.q) | (go_at_call 43; exact HG.out.q.q) | (go_at_call_of 46 (Value.int .i64 4); exact HH4.out.q) | (go_at_call_of 46 (Value.int .i64 2); exact HH2.out.q) | (go_at_call 59; exact HHL.out.q)))
  refine wpQuiet_nil ?_
  intro _ hwq
  obtain ⟨⟨dq, osq⟩, hwr⟩ := hwq
  subst hwr
  go_wp2
  go_ret
  refine ⟨str_of' ?_, ?_⟩
  · first | rfl | (simp only [← app_data]; done) | (simp only [← app_data]; rfl)
  exact below_quiet _ _ _ _ (below_box _ _)
set_option maxRecDepth 100000 in
set_option maxHeartbeats 4000000 in
theorem last_36 (s ix c d n ln pc cdk : Int) (x p q : Int) (h4 h2 hl : List UInt8) (HP : Hid (OpParts c x 6 3 p q)) (HG : Hid (OpGives c x 6 3 p q)) (HH4 : Hid (Gives 46 #[.int .u16 n, .int .i64 4] (.string ⟨h4.toArray⟩))) (h4l : h4.length ≤ 8) (HH2 : Hid (Gives 46 #[.int .u16 n, .int .i64 2] (.string ⟨h2.toArray⟩))) (h2l : h2.length ≤ 8) (HHL : Hid (Gives 59 #[.agg #[.int .i64 s, .int .i64 ix, .int .u8 c, .int .u8 d, .int .u16 n, .int .i64 ln]] (.string ⟨hl.toArray⟩))) (hll : hl.length ≤ 8) :
    Gives 50 #[.agg #[.int .i64 s, .int .i64 ix, .int .u8 c, .int .u8 d, .int .u16 n, .int .i64 ln]] (.string ⟨([100, 105]).toArray⟩) := by
  intro w
  obtain ⟨k0, k1, k2, k3, k4, k5⟩ := cells6 (Blk.new w 26 [.int .i64 s, .int .i64 ix, .int .u8 c, .int .u8 d, .int .u16 n, .int .i64 ln])
  have hix : ∀ u : World, (Instr.index 57 (.agg #[.string (⟨#[106, 112, 32]⟩ ++ ⟨h4.toArray⟩), .string ⟨#[]⟩, .string ((⟨#[111, 117, 116, 32, 40]⟩ ++ ⟨h2.toArray⟩) ++ ⟨#[41, 44, 97]⟩), .string ((⟨#[105, 110, 32, 97, 44, 40]⟩ ++ ⟨h2.toArray⟩) ++ ⟨#[41]⟩), .string (⟨#[101, 120, 32, 40, 115, 112, 41, 44]⟩ ++ ⟨hl.toArray⟩), .string ⟨#[101, 120, 32, 100, 101, 44, 104, 108]⟩, .string ⟨#[100, 105]⟩, .string ⟨#[101, 105]⟩]) (.int .i64 6)).run Try.prog u = .ok (.string ⟨#[100, 105]⟩) u := fun _ => by kernel_rfl
  have sa0 : ¬ 9223372036854775807 < 3 + h4.length := by omega
  have sc0 : ¬ 9223372036854775807 < 5 + h2.length := by omega
  have sc1 : ¬ 9223372036854775807 < 5 + h2.length + 3 := by omega
  have sd0 : ¬ 9223372036854775807 < 6 + h2.length := by omega
  have sd1 : ¬ 9223372036854775807 < 6 + h2.length + 1 := by omega
  have se0 : ¬ 9223372036854775807 < 8 + hl.length := by omega
  go_enter Try.func50, Try.ntmps50
  go_wp2_with (first
    | (go_at_call 25; refine (HP.out.x _).mono ?_; rintro e w' ⟨rfl, rfl⟩)
    | (go_at_call 39; refine (HP.out.y _).mono ?_; rintro e w' ⟨rfl, rfl⟩)
    | (go_at_call 22; refine (HP.out.z _).mono ?_; rintro e w' ⟨rfl, rfl⟩)
    | (go_at_call 45; refine (HP.out.p _).mono ?_; rintro e w' ⟨rfl, rfl⟩)
    | (go_at_call 43; refine (HP.out.q _).mono ?_; rintro e w' ⟨rfl, rfl⟩)
    | (go_at_call 46; refine (HH4.out _).mono ?_; rintro e w1 ⟨rfl, hb1⟩)
    | (go_at_call 46; refine (HH2.out _).mono ?_; rintro e w1 ⟨rfl, hb1⟩)
    | (go_at_call 59; refine (HHL.out _).mono ?_; rintro e w1 ⟨rfl, hb1⟩))
  refine wp_region_quiet_below (by kernel_rfl) (by kernel_rfl) ?_
  repeat (quiet_step (first | (go_at_call 25; exact HG.out.x.q) | (go_at_call 39; exact HG.out.y.q) | (go_at_call 22; exact HG.out.z.q) | (go_at_call 45; exact HG.out.p.q) | (go_at_call 43; exact HG.out.q.q) | (go_at_call_of 46 (Value.int .i64 4); exact HH4.out.q) | (go_at_call_of 46 (Value.int .i64 2); exact HH2.out.q) | (go_at_call 59; exact HHL.out.q)))
  refine wpQuiet_nil ?_
  intro _ hwq
  obtain ⟨⟨dq, osq⟩, hwr⟩ := hwq
  subst hwr
  go_wp2
  go_ret
  refine ⟨str_of' ?_, ?_⟩
  · first | rfl | (simp only [← app_data]; done) | (simp only [← app_data]; rfl)
  exact below_quiet _ _ _ _ (below_box _ _)
set_option maxRecDepth 100000 in
set_option maxHeartbeats 4000000 in
theorem last_37 (s ix c d n ln pc cdk : Int) (x p q : Int) (h4 h2 hl : List UInt8) (HP : Hid (OpParts c x 7 3 p q)) (HG : Hid (OpGives c x 7 3 p q)) (HH4 : Hid (Gives 46 #[.int .u16 n, .int .i64 4] (.string ⟨h4.toArray⟩))) (h4l : h4.length ≤ 8) (HH2 : Hid (Gives 46 #[.int .u16 n, .int .i64 2] (.string ⟨h2.toArray⟩))) (h2l : h2.length ≤ 8) (HHL : Hid (Gives 59 #[.agg #[.int .i64 s, .int .i64 ix, .int .u8 c, .int .u8 d, .int .u16 n, .int .i64 ln]] (.string ⟨hl.toArray⟩))) (hll : hl.length ≤ 8) :
    Gives 50 #[.agg #[.int .i64 s, .int .i64 ix, .int .u8 c, .int .u8 d, .int .u16 n, .int .i64 ln]] (.string ⟨([101, 105]).toArray⟩) := by
  intro w
  obtain ⟨k0, k1, k2, k3, k4, k5⟩ := cells6 (Blk.new w 26 [.int .i64 s, .int .i64 ix, .int .u8 c, .int .u8 d, .int .u16 n, .int .i64 ln])
  have hix : ∀ u : World, (Instr.index 57 (.agg #[.string (⟨#[106, 112, 32]⟩ ++ ⟨h4.toArray⟩), .string ⟨#[]⟩, .string ((⟨#[111, 117, 116, 32, 40]⟩ ++ ⟨h2.toArray⟩) ++ ⟨#[41, 44, 97]⟩), .string ((⟨#[105, 110, 32, 97, 44, 40]⟩ ++ ⟨h2.toArray⟩) ++ ⟨#[41]⟩), .string (⟨#[101, 120, 32, 40, 115, 112, 41, 44]⟩ ++ ⟨hl.toArray⟩), .string ⟨#[101, 120, 32, 100, 101, 44, 104, 108]⟩, .string ⟨#[100, 105]⟩, .string ⟨#[101, 105]⟩]) (.int .i64 7)).run Try.prog u = .ok (.string ⟨#[101, 105]⟩) u := fun _ => by kernel_rfl
  have sa0 : ¬ 9223372036854775807 < 3 + h4.length := by omega
  have sc0 : ¬ 9223372036854775807 < 5 + h2.length := by omega
  have sc1 : ¬ 9223372036854775807 < 5 + h2.length + 3 := by omega
  have sd0 : ¬ 9223372036854775807 < 6 + h2.length := by omega
  have sd1 : ¬ 9223372036854775807 < 6 + h2.length + 1 := by omega
  have se0 : ¬ 9223372036854775807 < 8 + hl.length := by omega
  go_enter Try.func50, Try.ntmps50
  go_wp2_with (first
    | (go_at_call 25; refine (HP.out.x _).mono ?_; rintro e w' ⟨rfl, rfl⟩)
    | (go_at_call 39; refine (HP.out.y _).mono ?_; rintro e w' ⟨rfl, rfl⟩)
    | (go_at_call 22; refine (HP.out.z _).mono ?_; rintro e w' ⟨rfl, rfl⟩)
    | (go_at_call 45; refine (HP.out.p _).mono ?_; rintro e w' ⟨rfl, rfl⟩)
    | (go_at_call 43; refine (HP.out.q _).mono ?_; rintro e w' ⟨rfl, rfl⟩)
    | (go_at_call 46; refine (HH4.out _).mono ?_; rintro e w1 ⟨rfl, hb1⟩)
    | (go_at_call 46; refine (HH2.out _).mono ?_; rintro e w1 ⟨rfl, hb1⟩)
    | (go_at_call 59; refine (HHL.out _).mono ?_; rintro e w1 ⟨rfl, hb1⟩))
  refine wp_region_quiet_below (by kernel_rfl) (by kernel_rfl) ?_
  repeat (quiet_step (first | (go_at_call 25; exact HG.out.x.q) | (go_at_call 39; exact HG.out.y.q) | (go_at_call 22; exact HG.out.z.q) | (go_at_call 45; exact HG.out.p.q) | (go_at_call 43; exact HG.out.q.q) | (go_at_call_of 46 (Value.int .i64 4); exact HH4.out.q) | (go_at_call_of 46 (Value.int .i64 2); exact HH2.out.q) | (go_at_call 59; exact HHL.out.q)))
  refine wpQuiet_nil ?_
  intro _ hwq
  obtain ⟨⟨dq, osq⟩, hwr⟩ := hwq
  subst hwr
  go_wp2
  go_ret
  refine ⟨str_of' ?_, ?_⟩
  · first | rfl | (simp only [← app_data]; done) | (simp only [← app_data]; rfl)
  exact below_quiet _ _ _ _ (below_box _ _)
set_option maxRecDepth 100000 in
set_option maxHeartbeats 4000000 in
theorem last_4 (s ix c d n ln pc cdk : Int) (x y p q : Int) (cy h4 : List UInt8) (HP : Hid (OpParts c x y 4 p q)) (HG : Hid (OpGives c x y 4 p q)) (HCY : Hid (Gives 61 #[.int .i64 y] (.string ⟨cy.toArray⟩))) (cyl : cy.length ≤ 8) (HH4 : Hid (Gives 46 #[.int .u16 n, .int .i64 4] (.string ⟨h4.toArray⟩))) (h4l : h4.length ≤ 8) :
    Gives 50 #[.agg #[.int .i64 s, .int .i64 ix, .int .u8 c, .int .u8 d, .int .u16 n, .int .i64 ln]] (.string ⟨([99, 97, 108, 108, 32] ++ cy ++ [44] ++ h4).toArray⟩) := by
  intro w
  have sz0 : ¬ 9223372036854775807 < 5 + cy.length := by omega
  have sz1 : ¬ 9223372036854775807 < 5 + cy.length + 1 := by omega
  have sz2 : ¬ 9223372036854775807 < 5 + cy.length + 1 + h4.length := by omega
  obtain ⟨k0, k1, k2, k3, k4, k5⟩ := cells6 (Blk.new w 26 [.int .i64 s, .int .i64 ix, .int .u8 c, .int .u8 d, .int .u16 n, .int .i64 ln])
  go_enter Try.func50, Try.ntmps50
  go_wp2_with (first
    | (go_at_call 25; refine (HP.out.x _).mono ?_; rintro e w' ⟨rfl, rfl⟩)
    | (go_at_call 39; refine (HP.out.y _).mono ?_; rintro e w' ⟨rfl, rfl⟩)
    | (go_at_call 22; refine (HP.out.z _).mono ?_; rintro e w' ⟨rfl, rfl⟩)
    | (go_at_call 45; refine (HP.out.p _).mono ?_; rintro e w' ⟨rfl, rfl⟩)
    | (go_at_call 43; refine (HP.out.q _).mono ?_; rintro e w' ⟨rfl, rfl⟩)
    | (go_at_call 61; refine (HCY.out _).mono ?_; rintro e w1 ⟨rfl, hb1⟩)
    | (go_at_call 46; refine (HH4.out _).mono ?_; rintro e w1 ⟨rfl, hb1⟩))
  refine wp_region_quiet_below (by kernel_rfl) (by kernel_rfl) ?_
  repeat (quiet_step (first | (go_at_call 25; exact HG.out.x.q) | (go_at_call 39; exact HG.out.y.q) | (go_at_call 22; exact HG.out.z.q) | (go_at_call 45; exact HG.out.p.q) | (go_at_call 43; exact HG.out.q.q) | (go_at_call 61; exact HCY.out.q) | (go_at_call_of 46 (Value.int .i64 4); exact HH4.out.q)))
  refine wpQuiet_nil ?_
  intro _ hwq
  obtain ⟨⟨dq, osq⟩, hwr⟩ := hwq
  subst hwr
  go_wp2
  go_ret
  refine ⟨str_of' ?_, ?_⟩
  · first | rfl | (simp only [← app_data]; done) | (simp only [← app_data]; rfl)
  exact below_quiet _ _ _ _ (below_box _ _)
set_option maxRecDepth 100000 in
set_option maxHeartbeats 4000000 in
theorem last_50 (s ix c d n ln pc cdk : Int) (x y p : Int) (pu : List UInt8) (HP : Hid (OpParts c x y 5 p 0)) (HG : Hid (OpGives c x y 5 p 0)) (HPU : Hid (Gives 63 #[.agg #[.int .i64 s, .int .i64 ix, .int .u8 c, .int .u8 d, .int .u16 n, .int .i64 ln], .int .i64 p] (.string ⟨pu.toArray⟩))) (pul : pu.length ≤ 8) :
    Gives 50 #[.agg #[.int .i64 s, .int .i64 ix, .int .u8 c, .int .u8 d, .int .u16 n, .int .i64 ln]] (.string ⟨([112, 117, 115, 104, 32] ++ pu).toArray⟩) := by
  intro w
  have sz0 : ¬ 9223372036854775807 < 5 + pu.length := by omega
  obtain ⟨k0, k1, k2, k3, k4, k5⟩ := cells6 (Blk.new w 26 [.int .i64 s, .int .i64 ix, .int .u8 c, .int .u8 d, .int .u16 n, .int .i64 ln])
  go_enter Try.func50, Try.ntmps50
  go_wp2_with (first
    | (go_at_call 25; refine (HP.out.x _).mono ?_; rintro e w' ⟨rfl, rfl⟩)
    | (go_at_call 39; refine (HP.out.y _).mono ?_; rintro e w' ⟨rfl, rfl⟩)
    | (go_at_call 22; refine (HP.out.z _).mono ?_; rintro e w' ⟨rfl, rfl⟩)
    | (go_at_call 45; refine (HP.out.p _).mono ?_; rintro e w' ⟨rfl, rfl⟩)
    | (go_at_call 43; refine (HP.out.q _).mono ?_; rintro e w' ⟨rfl, rfl⟩)
    | (go_at_call 63; refine (HPU.out _).mono ?_; rintro e w1 ⟨rfl, hb1⟩))
  refine wp_region_quiet_below (by kernel_rfl) (by kernel_rfl) ?_
  repeat (quiet_step (first | (go_at_call 25; exact HG.out.x.q) | (go_at_call 39; exact HG.out.y.q) | (go_at_call 22; exact HG.out.z.q) | (go_at_call 45; exact HG.out.p.q) | (go_at_call 43; exact HG.out.q.q) | (go_at_call 63; exact HPU.out.q)))
  refine wpQuiet_nil ?_
  intro _ hwq
  obtain ⟨⟨dq, osq⟩, hwr⟩ := hwq
  subst hwr
  go_wp2
  go_ret
  refine ⟨str_of' ?_, ?_⟩
  · first | rfl | (simp only [← app_data]; done) | (simp only [← app_data]; rfl)
  exact below_quiet _ _ _ _ (below_box _ _)
set_option maxRecDepth 100000 in
set_option maxHeartbeats 4000000 in
theorem last_51 (s ix c d n ln pc cdk : Int) (x y p : Int) (h4 : List UInt8) (HP : Hid (OpParts c x y 5 p 1)) (HG : Hid (OpGives c x y 5 p 1)) (HH4 : Hid (Gives 46 #[.int .u16 n, .int .i64 4] (.string ⟨h4.toArray⟩))) (h4l : h4.length ≤ 8) :
    Gives 50 #[.agg #[.int .i64 s, .int .i64 ix, .int .u8 c, .int .u8 d, .int .u16 n, .int .i64 ln]] (.string ⟨([99, 97, 108, 108, 32] ++ h4).toArray⟩) := by
  intro w
  go_enter Try.func50, Try.ntmps50
  go_wp2_with (first
    | (go_at_call 25; refine (HP.out.x _).mono ?_; rintro e w' ⟨rfl, rfl⟩)
    | (go_at_call 39; refine (HP.out.y _).mono ?_; rintro e w' ⟨rfl, rfl⟩)
    | (go_at_call 22; refine (HP.out.z _).mono ?_; rintro e w' ⟨rfl, rfl⟩)
    | (go_at_call 45; refine (HP.out.p _).mono ?_; rintro e w' ⟨rfl, rfl⟩)
    | (go_at_call 43; refine (HP.out.q _).mono ?_; rintro e w' ⟨rfl, rfl⟩)
    | (go_at_call 46; refine (HH4.out _).mono ?_; rintro e w1 ⟨rfl, hb1⟩))
  go_ret
  refine ⟨str_of' ?_, ?_⟩
  · first | rfl | (simp only [← app_data]; done) | (simp only [← app_data]; rfl)
  first | exact below_box _ _ | exact (below_box _ _).trans (hb1.mono (by simp))
set_option maxRecDepth 100000 in
set_option maxHeartbeats 4000000 in
theorem last_6 (s ix c d n ln pc cdk : Int) (x y p q : Int) (op h2 : List UInt8) (HP : Hid (OpParts c x y 6 p q)) (HG : Hid (OpGives c x y 6 p q)) (HOP : Hid (Gives 49 #[.int .i64 y] (.string ⟨op.toArray⟩))) (opl : op.length ≤ 8) (HH2 : Hid (Gives 46 #[.int .u16 n, .int .i64 2] (.string ⟨h2.toArray⟩))) (h2l : h2.length ≤ 8) :
    Gives 50 #[.agg #[.int .i64 s, .int .i64 ix, .int .u8 c, .int .u8 d, .int .u16 n, .int .i64 ln]] (.string ⟨(op ++ h2).toArray⟩) := by
  intro w
  have sz0 : ¬ 9223372036854775807 < op.length + h2.length := by omega
  obtain ⟨k0, k1, k2, k3, k4, k5⟩ := cells6 (Blk.new w 26 [.int .i64 s, .int .i64 ix, .int .u8 c, .int .u8 d, .int .u16 n, .int .i64 ln])
  go_enter Try.func50, Try.ntmps50
  go_wp2_with (first
    | (go_at_call 25; refine (HP.out.x _).mono ?_; rintro e w' ⟨rfl, rfl⟩)
    | (go_at_call 39; refine (HP.out.y _).mono ?_; rintro e w' ⟨rfl, rfl⟩)
    | (go_at_call 22; refine (HP.out.z _).mono ?_; rintro e w' ⟨rfl, rfl⟩)
    | (go_at_call 45; refine (HP.out.p _).mono ?_; rintro e w' ⟨rfl, rfl⟩)
    | (go_at_call 43; refine (HP.out.q _).mono ?_; rintro e w' ⟨rfl, rfl⟩)
    | (go_at_call 49; refine (HOP.out _).mono ?_; rintro e w1 ⟨rfl, hb1⟩)
    | (go_at_call 46; refine (HH2.out _).mono ?_; rintro e w1 ⟨rfl, hb1⟩))
  refine wp_region_quiet_below (by kernel_rfl) (by kernel_rfl) ?_
  repeat (quiet_step (first | (go_at_call 25; exact HG.out.x.q) | (go_at_call 39; exact HG.out.y.q) | (go_at_call 22; exact HG.out.z.q) | (go_at_call 45; exact HG.out.p.q) | (go_at_call 43; exact HG.out.q.q) | (go_at_call 49; exact HOP.out.q) | (go_at_call_of 46 (Value.int .i64 2); exact HH2.out.q)))
  refine wpQuiet_nil ?_
  intro _ hwq
  obtain ⟨⟨dq, osq⟩, hwr⟩ := hwq
  subst hwr
  go_wp2
  go_ret
  refine ⟨str_of' ?_, ?_⟩
  · first | rfl | (simp only [← app_data]; done) | (simp only [← app_data]; rfl)
  exact below_quiet _ _ _ _ (below_box _ _)
set_option maxRecDepth 100000 in
set_option maxHeartbeats 4000000 in
theorem last_7 (s ix c d n ln pc cdk : Int) (x y p q : Int) (hr : List UInt8) (HP : Hid (OpParts c x y 7 p q)) (HG : Hid (OpGives c x y 7 p q)) (rb : Int) (hrb : bits .and .u8 c 56 = rb) (rb0 : 0 ≤ rb) (rb1 : rb ≤ 56) (HHR : Hid (Gives 46 #[.int .u16 rb, .int .i64 2] (.string ⟨hr.toArray⟩))) (hrl : hr.length ≤ 8) :
    Gives 50 #[.agg #[.int .i64 s, .int .i64 ix, .int .u8 c, .int .u8 d, .int .u16 n, .int .i64 ln]] (.string ⟨([114, 115, 116, 32] ++ hr).toArray⟩) := by
  intro w
  go_enter Try.func50, Try.ntmps50
  go_wp2_with (first
    | (go_at_call 25; refine (HP.out.x _).mono ?_; rintro e w' ⟨rfl, rfl⟩)
    | (go_at_call 39; refine (HP.out.y _).mono ?_; rintro e w' ⟨rfl, rfl⟩)
    | (go_at_call 22; refine (HP.out.z _).mono ?_; rintro e w' ⟨rfl, rfl⟩)
    | (go_at_call 45; refine (HP.out.p _).mono ?_; rintro e w' ⟨rfl, rfl⟩)
    | (go_at_call 43; refine (HP.out.q _).mono ?_; rintro e w' ⟨rfl, rfl⟩)
    | (go_at_call 46; refine (HHR.out _).mono ?_; rintro e w1 ⟨rfl, hb1⟩))
  go_ret
  refine ⟨str_of' ?_, ?_⟩
  · first | rfl | (simp only [← app_data]; done) | (simp only [← app_data]; rfl)
  first | exact below_box _ _ | exact (below_box _ _).trans (hb1.mono (by simp))
end Go.Proofs.Ytjkakmmhbciilaa
