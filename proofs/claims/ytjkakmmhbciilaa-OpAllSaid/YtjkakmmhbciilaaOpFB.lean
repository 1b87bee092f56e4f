/- op: the text of the first quarter, branch by branch. (printed by wip/gen/gen_opsh.py) -/
import Derived.Test.YtjkakmmhbciilaaOpFA
namespace Go.Proofs.Ytjkakmmhbciilaa
set_option linter.unusedSimpArgs false
set_option linter.unusedVariables false
open Go.RowKit Go.Sort
structure OpGives (c x y z p q : Int) : Prop where
  x : Gives 25 #[.int .u8 c] (.int .i64 x)
  y : Gives 39 #[.int .u8 c] (.int .i64 y)
  z : Gives 22 #[.int .u8 c] (.int .i64 z)
  p : Gives 45 #[.int .u8 c] (.int .i64 p)
  q : Gives 43 #[.int .u8 c] (.int .i64 q)
theorem OpParts.gives {c x y z p q : Int} (h : OpParts c x y z p q) : OpGives c x y z p q := ⟨gives_same h.x, gives_same h.y, gives_same h.z, gives_same h.p, gives_same h.q⟩
set_option maxRecDepth 100000 in
set_option maxHeartbeats 4000000 in
theorem first_00 (s ix c d n ln pc cdk : Int) (x p q : Int)  (HP : Hid (OpParts c x 0 0 p q)) (HG : Hid (OpGives c x 0 0 p q)) :
    Gives 48 #[.agg #[.int .i64 s, .int .i64 ix, .int .u8 c, .int .u8 d, .int .u16 n, .int .i64 ln], .int .u16 pc] (.string ⟨([110, 111, 112]).toArray⟩) := by
  intro w
  go_enter Try.func48, Try.ntmps48
  go_wp2_with (first
    | (go_at_call 25; refine (HP.out.x _).mono ?_; rintro e w' ⟨rfl, rfl⟩)
    | (go_at_call 39; refine (HP.out.y _).mono ?_; rintro e w' ⟨rfl, rfl⟩)
    | (go_at_call 22; refine (HP.out.z _).mono ?_; rintro e w' ⟨rfl, rfl⟩)
    | (go_at_call 45; refine (HP.out.p _).mono ?_; rintro e w' ⟨rfl, rfl⟩)
    | (go_at_call 43; refine (HP.out.q _).mono ?_; rintro e w' ⟨rfl, rfl⟩))
  go_ret
  refine ⟨str_of' ?_, ?_⟩
  · first | rfl | (simp only [← app_data]; done) | (simp only [← app_data]; rfl)
  first | exact below_box _ _ | exact (below_box _ _).trans (hb1.mono (by simp))
set_option maxRecDepth 100000 in
set_option maxHeartbeats 4000000 in
theorem first_01 (s ix c d n ln pc cdk : Int) (x p q : Int)  (HP : Hid (OpParts c x 1 0 p q)) (HG : Hid (OpGives c x 1 0 p q)) :
    Gives 48 #[.agg #[.int .i64 s, .int .i64 ix, .int .u8 c, .int .u8 d, .int .u16 n, .int .i64 ln], .int .u16 pc] (.string ⟨([101, 120, 32, 97, 102, 44, 97, 102, 39]).toArray⟩) := by
  intro w
  go_enter Try.func48, Try.ntmps48
  go_wp2_with (first
    | (go_at_call 25; refine (HP.out.x _).mono ?_; rintro e w' ⟨rfl, rfl⟩)
    | (go_at_call 39; refine (HP.out.y _).mono ?_; rintro e w' ⟨rfl, rfl⟩)
    | (go_at_call 22; refine (HP.out.z _).mono ?_; rintro e w' ⟨rfl, rfl⟩)
    | (go_at_call 45; refine (HP.out.p _).mono ?_; rintro e w' ⟨rfl, rfl⟩)
    | (go_at_call 43; refine (HP.out.q _).mono ?_; rintro e w' ⟨rfl, rfl⟩))
  go_ret
  refine ⟨str_of' ?_, ?_⟩
  · first | rfl | (simp only [← app_data]; done) | (simp only [← app_data]; rfl)
  first | exact below_box _ _ | exact (below_box _ _).trans (hb1.mono (by simp))
set_option maxRecDepth 100000 in
set_option maxHeartbeats 4000000 in
theorem first_02 (s ix c d n ln pc cdk : Int) (x p q : Int) (tg : List UInt8) (HP : Hid (OpParts c x 2 0 p q)) (HG : Hid (OpGives c x 2 0 p q)) (HTG : Hid (Gives 60 #[.agg #[.int .i64 s, .int .i64 ix, .int .u8 c, .int .u8 d, .int .u16 n, .int .i64 ln], .int .u16 pc] (.string ⟨tg.toArray⟩))) (tgl : tg.length ≤ 8) :
    Gives 48 #[.agg #[.int .i64 s, .int .i64 ix, .int .u8 c, .int .u8 d, .int .u16 n, .int .i64 ln], .int .u16 pc] (.string ⟨([100, 106, 110, 122, 32] ++ tg).toArray⟩) := by
  intro w
  go_enter Try.func48, Try.ntmps48
  go_wp2_with (first
    | (go_at_call 25; refine (HP.out.x _).mono ?_; rintro e w' ⟨rfl, rfl⟩)
    | (go_at_call 39; refine (HP.out.y _).mono ?_; rintro e w' ⟨rfl, rfl⟩)
    | (go_at_call 22; refine (HP.out.z _).mono ?_; rintro e w' ⟨rfl, rfl⟩)
    | (go_at_call 45; refine (HP.out.p _).mono ?_; rintro e w' ⟨rfl, rfl⟩)
    | (go_at_call 43; refine (HP.out.q _).mono ?_; rintro e w' ⟨rfl, rfl⟩)
    | (go_at_call 60; refine (HTG.out _).mono ?_; rintro e w1 ⟨rfl, hb1⟩))
  go_ret
  refine ⟨str_of' ?_, ?_⟩
  · first | rfl | (simp only [← app_data]; done) | (simp only [← app_data]; rfl)
  first | exact below_box _ _ | exact (below_box _ _).trans (hb1.mono (by simp))
set_option maxRecDepth 100000 in
set_option maxHeartbeats 4000000 in
theorem first_03 (s ix c d n ln pc cdk : Int) (x p q : Int) (tg : List UInt8) (HP : Hid (OpParts c x 3 0 p q)) (HG : Hid (OpGives c x 3 0 p q)) (HTG : Hid (Gives 60 #[.agg #[.int .i64 s, .int .i64 ix, .int .u8 c, .int .u8 d, .int .u16 n, .int .i64 ln], .int .u16 pc] (.string ⟨tg.toArray⟩))) (tgl : tg.length ≤ 8) :
    Gives 48 #[.agg #[.int .i64 s, .int .i64 ix, .int .u8 c, .int .u8 d, .int .u16 n, .int .i64 ln], .int .u16 pc] (.string ⟨([106, 114, 32] ++ tg).toArray⟩) := by
  intro w
  go_enter Try.func48, Try.ntmps48
  go_wp2_with (first
    | (go_at_call 25; refine (HP.out.x _).mono ?_; rintro e w' ⟨rfl, rfl⟩)
    | (go_at_call 39; refine (HP.out.y _).mono ?_; rintro e w' ⟨rfl, rfl⟩)
    | (go_at_call 22; refine (HP.out.z _).mono ?_; rintro e w' ⟨rfl, rfl⟩)
    | (go_at_call 45; refine (HP.out.p _).mono ?_; rintro e w' ⟨rfl, rfl⟩)
    | (go_at_call 43; refine (HP.out.q _).mono ?_; rintro e w' ⟨rfl, rfl⟩)
    | (go_at_call 60; refine (HTG.out _).mono ?_; rintro e w1 ⟨rfl, hb1⟩))
  go_ret
  refine ⟨str_of' ?_, ?_⟩
  · first | rfl | (simp only [← app_data]; done) | (simp only [← app_data]; rfl)
  first | exact below_box _ _ | exact (below_box _ _).trans (hb1.mono (by simp))
set_option maxRecDepth 100000 in
set_option maxHeartbeats 4000000 in
theorem first_04 (s ix c d n ln pc cdk : Int) (x y p q : Int) (tg cd : List UInt8) (HP : Hid (OpParts c x y 0 p q)) (HG : Hid (OpGives c x y 0 p q)) (b0 : (y == 0) = false) (b1 : (y == 1) = false) (b2 : (y == 2) = false) (b3 : (y == 3) = false) (y0 : 0 ≤ y) (y1 : y < 8) (hck : cdk = y - 4) (HTG : Hid (Gives 60 #[.agg #[.int .i64 s, .int .i64 ix, .int .u8 c, .int .u8 d, .int .u16 n, .int .i64 ln], .int .u16 pc] (.string ⟨tg.toArray⟩))) (tgl : tg.length ≤ 8) (HCD : Hid (Gives 61 #[.int .i64 cdk] (.string ⟨cd.toArray⟩))) (cdl : cd.length ≤ 8) :
    Gives 48 #[.agg #[.int .i64 s, .int .i64 ix, .int .u8 c, .int .u8 d, .int .u16 n, .int .i64 ln], .int .u16 pc] (.string ⟨([106, 114, 32] ++ cd ++ [44] ++ tg).toArray⟩) := by
  intro w
  have sz0 : ¬ 9223372036854775807 < 3 + cd.length := by omega
  have sz1 : ¬ 9223372036854775807 < 3 + cd.length + 1 := by omega
  have sz2 : ¬ 9223372036854775807 < 3 + cd.length + 1 + tg.length := by omega
  obtain ⟨k0, k1, k2, k3, k4, k5⟩ := cells6 (Blk.new w 26 [.int .i64 s, .int .i64 ix, .int .u8 c, .int .u8 d, .int .u16 n, .int .i64 ln])
  subst hck
  have hwy : IntKind.i64.wrap (y - 4) = y - 4 := by rw [IntKind.wrap_i64]; omega
  go_enter Try.func48, Try.ntmps48
  go_wp2_with (first
    | (go_at_call 25; refine (HP.out.x _).mono ?_; rintro e w' ⟨rfl, rfl⟩)
    | (go_at_call 39; refine (HP.out.y _).mono ?_; rintro e w' ⟨rfl, rfl⟩)
    | (go_at_call 22; refine (HP.out.z _).mono ?_; rintro e w' ⟨rfl, rfl⟩)
    | (go_at_call 45; refine (HP.out.p _).mono ?_; rintro e w' ⟨rfl, rfl⟩)
    | (go_at_call 43; refine (HP.out.q _).mono ?_; rintro e w' ⟨rfl, rfl⟩)
    | (go_at_call 60; refine (HTG.out _).mono ?_; rintro e w1 ⟨rfl, hb1⟩)
    | (go_at_call 61; refine (HCD.out _).mono ?_; rintro e w1 ⟨rfl, hb1⟩))
  refine wp_region_quiet_below (by kernel_rfl) (by kernel_rfl) ?_
  repeat (quiet_step (first | (go_at_call 25; exact HG.out.x.q) | (go_at_call 39; exact HG.out.y.q) | (go_at_call 22; exact HG.out.z.q) | (go_at_call 45; exact HG.out.p.q) | (go_at_call 43; exact HG.out.q.q) | (go_at_call 60; exact HTG.out.q) | (go_at_call 61; exact HCD.out.q)))
  refine wpQuiet_nil ?_
  intro _ hwq
  obtain ⟨⟨dq, osq⟩, hwr⟩ := hwq
  subst hwr
  go_wp2
  go_ret
  refine ⟨str_of' ?_, ?_⟩
  · first | rfl | (simp only [← app_data]; done) | (simp only [← app_data]; rfl)
  exact below_quiet _ _ _ _ (below_box _ _)
set_option maxRecDepth 100000 in
set_option maxHeartbeats 4000000 in
theorem first_10 (s ix c d n ln pc cdk : Int) (x y p : Int) (pr h4 : List UInt8) (HP : Hid (OpParts c x y 1 p 0)) (HG : Hid (OpGives c x y 1 p 0)) (HPR : Hid (Gives 44 #[.agg #[.int .i64 s, .int .i64 ix, .int .u8 c, .int .u8 d, .int .u16 n, .int .i64 ln], .int .i64 p] (.string ⟨pr.toArray⟩))) (prl : pr.length ≤ 8) (HH4 : Hid (Gives 46 #[.int .u16 n, .int .i64 4] (.string ⟨h4.toArray⟩))) (h4l : h4.length ≤ 8) :
    Gives 48 #[.agg #[.int .i64 s, .int .i64 ix, .int .u8 c, .int .u8 d, .int .u16 n, .int .i64 ln], .int .u16 pc] (.string ⟨([108, 100, 32] ++ pr ++ [44] ++ h4).toArray⟩) := by
  intro w
  have sz0 : ¬ 9223372036854775807 < 3 + pr.length := by omega
  have sz1 : ¬ 9223372036854775807 < 3 + pr.length + 1 := by omega
  have sz2 : ¬ 9223372036854775807 < 3 + pr.length + 1 + h4.length := by omega
  obtain ⟨k0, k1, k2, k3, k4, k5⟩ := cells6 (Blk.new w 26 [.int .i64 s, .int .i64 ix, .int .u8 c, .int .u8 d, .int .u16 n, .int .i64 ln])
  go_enter Try.func48, Try.ntmps48
  go_wp2_with (first
    | (go_at_call 25; refine (HP.out.x _).mono ?_; rintro e w' ⟨rfl, rfl⟩)
    | (go_at_call 39; refine (HP.out.y _).mono ?_; rintro e w' ⟨rfl, rfl⟩)
    | (go_at_call 22; refine (HP.out.z _).mono ?_; rintro e w' ⟨rfl, rfl⟩)
    | (go_at_call 45; refine (HP.out.p _).mono ?_; rintro e w' ⟨rfl, rfl⟩)
    | (go_at_call 43; refine (HP.out.q _).mono ?_; rintro e w' ⟨rfl, rfl⟩)
    | (go_at_call 44; refine (HPR.out _).mono ?_; rintro e w1 ⟨rfl, hb1⟩)
    | (go_at_call 46; refine (HH4.out _).mono ?_; rintro e w1 ⟨rfl, hb1⟩))
  refine wp_region_quiet_below (by kernel_rfl) (by kernel_rfl) ?_
  repeat (quiet_step (first | (go_at_call 25; exact HG.out.x.q) | (go_at_call 39; exact HG.out.y.q) | (go_at_call 22; exact HG.out.z.q) | (go_at_call 45; exact HG.out.p.q) | (go_at_call 43; exact HG.out.q.q) | (go_at_call 44; exact HPR.out.q) | (go_at_call_of 46 (Value.int .i64 4); exact HH4.out.q)))
  refine wpQuiet_nil ?_
  intro _ hwq
  obtain ⟨⟨dq, osq⟩, hwr⟩ := hwq
  subst hwr
  go_wp2
  go_ret
  refine ⟨str_of' ?_, ?_⟩
  · first | rfl | (simp only [← app_data]; done) | (simp only [← app_data]; rfl)
  exact below_quiet _ _ _ _ (below_box _ _)
set_option maxRecDepth 100000 in
set_option maxHeartbeats 4000000 in
theorem first_11 (s ix c d n ln pc cdk : Int) (x y p : Int) (hl pr : List UInt8) (HP : Hid (OpParts c x y 1 p 1)) (HG : Hid (OpGives c x y 1 p 1)) (HHL : Hid (Gives 59 #[.agg #[.int .i64 s, .int .i64 ix, .int .u8 c, .int .u8 d, .int .u16 n, .int .i64 ln]] (.string ⟨hl.toArray⟩))) (hll : hl.length ≤ 8) (HPR : Hid (Gives 44 #[.agg #[.int .i64 s, .int .i64 ix, .int .u8 c, .int .u8 d, .int .u16 n, .int .i64 ln], .int .i64 p] (.string ⟨pr.toArray⟩))) (prl : pr.length ≤ 8) :
    Gives 48 #[.agg #[.int .i64 s, .int .i64 ix, .int .u8 c, .int .u8 d, .int .u16 n, .int .i64 ln], .int .u16 pc] (.string ⟨([97, 100, 100, 32] ++ hl ++ [44] ++ pr).toArray⟩) := by
  intro w
  have sz0 : ¬ 9223372036854775807 < 4 + hl.length := by omega
  have sz1 : ¬ 9223372036854775807 < 4 + hl.length + 1 := by omega
  have sz2 : ¬ 9223372036854775807 < 4 + hl.length + 1 + pr.length := by omega
  obtain ⟨k0, k1, k2, k3, k4, k5⟩ := cells6 (Blk.new w 26 [.int .i64 s, .int .i64 ix, .int .u8 c, .int .u8 d, .int .u16 n, .int .i64 ln])
  go_enter Try.func48, Try.ntmps48
  go_wp2_with (first
    | (go_at_call 25; refine (HP.out.x _).mono ?_; rintro e w' ⟨rfl, rfl⟩)
    | (go_at_call 39; refine (HP.out.y _).mono ?_; rintro e w' ⟨rfl, rfl⟩)
    | (go_at_call 22; refine (HP.out.z _).mono ?_; rintro e w' ⟨rfl, rfl⟩)
    | (go_at_call 45; refine (HP.out.p _).mono ?_; rintro e w' ⟨rfl, rfl⟩)
    | (go_at_call 43; refine (HP.out.q _).mono ?_; rintro e w' ⟨rfl, rfl⟩)
    | (go_at_call 59; refine (HHL.out _).mono ?_; rintro e w1 ⟨rfl, hb1⟩)
    | (go_at_call 44; refine (HPR.out _).mono ?_; rintro e w1 ⟨rfl, hb1⟩))
  refine wp_region_quiet_below (by kernel_rfl) (by kernel_rfl) ?_
  repeat (quiet_step (first | (go_at_call 25; exact HG.out.x.q) | (go_at_call 39; exact HG.out.y.q) | (go_at_call 22; exact HG.out.z.q) | (go_at_call 45; exact HG.out.p.q) | (go_at_call 43; exact HG.out.q.q) | (go_at_call 59; exact HHL.out.q) | (go_at_call 44; exact HPR.out.q)))
  refine wpQuiet_nil ?_
  intro _ hwq
  obtain ⟨⟨dq, osq⟩, hwr⟩ := hwq
  subst hwr
  go_wp2
  go_ret
  refine ⟨str_of' ?_, ?_⟩
  · first | rfl | (simp only [← app_data]; done) | (simp only [← app_data]; rfl)
  exact below_quiet _ _ _ _ (below_box _ _)
set_option maxRecDepth 100000 in
set_option maxHeartbeats 4000000 in
theorem first_2 (s ix c d n ln pc cdk : Int) (x y p q : Int) (mv : List UInt8) (HP : Hid (OpParts c x y 2 p q)) (HG : Hid (OpGives c x y 2 p q)) (HMV : Hid (Gives 62 #[.agg #[.int .i64 s, .int .i64 ix, .int .u8 c, .int .u8 d, .int .u16 n, .int .i64 ln]] (.string ⟨mv.toArray⟩))) (mvl : mv.length ≤ 40) :
    Gives 48 #[.agg #[.int .i64 s, .int .i64 ix, .int .u8 c, .int .u8 d, .int .u16 n, .int .i64 ln], .int .u16 pc] (.string ⟨(mv).toArray⟩) := by
  intro w
  go_enter Try.func48, Try.ntmps48
  go_wp2_with (first
    | (go_at_call 25; refine (HP.out.x _).mono ?_; rintro e w' ⟨rfl, rfl⟩)
    | (go_at_call 39; refine (HP.out.y _).mono ?_; rintro e w' ⟨rfl, rfl⟩)
    | (go_at_call 22; refine (HP.out.z _).mono ?_; rintro e w' ⟨rfl, rfl⟩)
    | (go_at_call 45; refine (HP.out.p _).mono ?_; rintro e w' ⟨rfl, rfl⟩)
    | (go_at_call 43; refine (HP.out.q _).mono ?_; rintro e w' ⟨rfl, rfl⟩)
    | (go_at_call 62; refine (HMV.out _).mono ?_; rintro e w1 ⟨rfl, hb1⟩))
  go_ret
  refine ⟨str_of' ?_, ?_⟩
  · first | rfl | (simp only [← app_data]; done) | (simp only [← app_data]; rfl)
  first | exact below_box _ _ | exact (below_box _ _).trans (hb1.mono (by simp))
set_option maxRecDepth 100000 in
set_option maxHeartbeats 4000000 in
theorem first_3 (s ix c d n ln pc cdk : Int) (x y p q : Int) (pr : List UInt8) (HP : Hid (OpParts c x y 3 p q)) (HG : Hid (OpGives c x y 3 p q)) (iq : List UInt8) (iql : iq.length ≤ 8) (hiq : ∀ u : World, (Instr.index 59 (.agg #[.string ⟨#[105, 110, 99, 32]⟩, .string ⟨#[100, 101, 99, 32]⟩]) (.int .i64 q)).run Try.prog u = .ok (.string ⟨iq.toArray⟩) u) (HPR : Hid (Gives 44 #[.agg #[.int .i64 s, .int .i64 ix, .int .u8 c, .int .u8 d, .int .u16 n, .int .i64 ln], .int .i64 p] (.string ⟨pr.toArray⟩))) (prl : pr.length ≤ 8) :
    Gives 48 #[.agg #[.int .i64 s, .int .i64 ix, .int .u8 c, .int .u8 d, .int .u16 n, .int .i64 ln], .int .u16 pc] (.string ⟨(iq ++ pr).toArray⟩) := by
  intro w
  have sz0 : ¬ 9223372036854775807 < iq.length + pr.length := by omega
  obtain ⟨k0, k1, k2, k3, k4, k5⟩ := cells6 (Blk.new w 26 [.int .i64 s, .int .i64 ix, .int .u8 c, .int .u8 d, .int .u16 n, .int .i64 ln])
  go_enter Try.func48, Try.ntmps48
  go_wp2_with (first
    | (go_at_call 25; refine (HP.out.x _).mono ?_; rintro e w' ⟨rfl, rfl⟩)
    | (go_at_call 39; refine (HP.out.y _).mono ?_; rintro e w' ⟨rfl, rfl⟩)
    | (go_at_call 22; refine (HP.out.z _).mono ?_; rintro e w' ⟨rfl, rfl⟩)
    | (go_at_call 45; refine (HP.out.p _).mono ?_; rintro e w' ⟨rfl, rfl⟩)
    | (go_at_call 43; refine (HP.out.q _).mono ?_; rintro e w' ⟨rfl, rfl⟩)
    | (go_at_call 44; refine (HPR.out _).mono ?_; rintro e w1 ⟨rfl, hb1⟩))
  refine wp_region_quiet_below (by kernel_rfl) (by kernel_rfl) ?_
  repeat (quiet_step (first | (go_at_call 25; exact HG.out.x.q) | (go_at_call 39; exact HG.out.y.q) | (go_at_call 22; exact HG.out.z.q) | (go_at_call 45; exact HG.out.p.q) | (go_at_call 43; exact HG.out.q.q) | (go_at_call 44; exact HPR.out.q)))
  refine wpQuiet_nil ?_
  intro _ hwq
  obtain ⟨⟨dq, osq⟩, hwr⟩ := hwq
  subst hwr
  go_wp2
  go_ret
  refine ⟨str_of' ?_, ?_⟩
  · first | rfl | (simp only [← app_data]; done) | (simp only [← app_data]; rfl)
  exact below_quiet _ _ _ _ (below_box _ _)
set_option maxRecDepth 100000 in
set_option maxHeartbeats 4000000 in
theorem first_4 (s ix c d n ln pc cdk : Int) (x y p q : Int) (ry : List UInt8) (HP : Hid (OpParts c x y 4 p q)) (HG : Hid (OpGives c x y 4 p q)) (HRY : Hid (Gives 21 #[.agg #[.int .i64 s, .int .i64 ix, .int .u8 c, .int .u8 d, .int .u16 n, .int .i64 ln], .int .i64 y] (.string ⟨ry.toArray⟩))) (ryl : ry.length ≤ 16) :
    Gives 48 #[.agg #[.int .i64 s, .int .i64 ix, .int .u8 c, .int .u8 d, .int .u16 n, .int .i64 ln], .int .u16 pc] (.string ⟨([105, 110, 99, 32] ++ ry).toArray⟩) := by
  intro w
  have sz0 : ¬ 9223372036854775807 < 4 + ry.length := by omega
  obtain ⟨k0, k1, k2, k3, k4, k5⟩ := cells6 (Blk.new w 26 [.int .i64 s, .int .i64 ix, .int .u8 c, .int .u8 d, .int .u16 n, .int .i64 ln])
  go_enter Try.func48, Try.ntmps48
  go_wp2_with (first
    | (go_at_call 25; refine (HP.out.x _).mono ?_; rintro e w' ⟨rfl, rfl⟩)
    | (go_at_call 39; refine (HP.out.y _).mono ?_; rintro e w' ⟨rfl, rfl⟩)
    | (go_at_call 22; refine (HP.out.z _).mono ?_; rintro e w' ⟨rfl, rfl⟩)
    | (go_at_call 45; refine (HP.out.p _).mono ?_; rintro e w' ⟨rfl, rfl⟩)
    | (go_at_call 43; refine (HP.out.q _).mono ?_; rintro e w' ⟨rfl, rfl⟩)
    | (go_at_call 21; refine (HRY.out _).mono ?_; rintro e w1 ⟨rfl, hb1⟩))
  refine wp_region_quiet_below (by kernel_rfl) (by kernel_rfl) ?_
  repeat (quiet_step (first | (go_at_call 25; exact HG.out.x.q) | (go_at_call 39; exact HG.out.y.q) | (go_at_call 22; exact HG.out.z.q) | (go_at_call 45; exact HG.out.p.q) | (go_at_call 43; exact HG.out.q.q) | (go_at_call 21; exact HRY.out.q)))
  refine wpQuiet_nil ?_
  intro _ hwq
  obtain ⟨⟨dq, osq⟩, hwr⟩ := hwq
  subst hwr
  go_wp2
  go_ret
  refine ⟨str_of' ?_, ?_⟩
  · first | rfl | (simp only [← app_data]; done) | (simp only [← app_data]; rfl)
  exact below_quiet _ _ _ _ (below_box _ _)
set_option maxRecDepth 100000 in
set_option maxHeartbeats 4000000 in
theorem first_5 (s ix c d n ln pc cdk : Int) (x y p q : Int) (ry : List UInt8) (HP : Hid (OpParts c x y 5 p q)) (HG : Hid (OpGives c x y 5 p q)) (HRY : Hid (Gives 21 #[.agg #[.int .i64 s, .int .i64 ix, .int .u8 c, .int .u8 d, .int .u16 n, .int .i64 ln], .int .i64 y] (.string ⟨ry.toArray⟩))) (ryl : ry.length ≤ 16) :
    Gives 48 #[.agg #[.int .i64 s, .int .i64 ix, .int .u8 c, .int .u8 d, .int .u16 n, .int .i64 ln], .int .u16 pc] (.string ⟨([100, 101, 99, 32] ++ ry).toArray⟩) := by
  intro w
  have sz0 : ¬ 9223372036854775807 < 4 + ry.length := by omega
  obtain ⟨k0, k1, k2, k3, k4, k5⟩ := cells6 (Blk.new w 26 [.int .i64 s, .int .i64 ix, .int .u8 c, .int .u8 d, .int .u16 n, .int .i64 ln])
  go_enter Try.func48, Try.ntmps48
  go_wp2_with (first
    | (go_at_call 25; refine (HP.out.x _).mono ?_; rintro e w' ⟨rfl, rfl⟩)
    | (go_at_call 39; refine (HP.out.y _).mono ?_; rintro e w' ⟨rfl, rfl⟩)
    | (go_at_call 22; refine (HP.out.z _).mono ?_; rintro e w' ⟨rfl, rfl⟩)
    | (go_at_call 45; refine (HP.out.p _).mono ?_; rintro e w' ⟨rfl, rfl⟩)
    | (go_at_call 43; refine (HP.out.q _).mono ?_; rintro e w' ⟨rfl, rfl⟩)
    | (go_at_call 21; refine (HRY.out _).mono ?_; rintro e w1 ⟨rfl, hb1⟩))
  refine wp_region_quiet_below (by kernel_rfl) (by kernel_rfl) ?_
  repeat (quiet_step (first | (go_at_call 25; exact HG.out.x.q) | (go_at_call 39; exact HG.out.y.q) | (go_at_call 22; exact HG.out.z.q) | (go_at_call 45; exact HG.out.p.q) | (go_at_call 43; exact HG.out.q.q) | (go_at_call 21; exact HRY.out.q)))
  refine wpQuiet_nil ?_
  intro _ hwq
  obtain ⟨⟨dq, osq⟩, hwr⟩ := hwq
  subst hwr
  go_wp2
  go_ret
  refine ⟨str_of' ?_, ?_⟩
  · first | rfl | (simp only [← app_data]; done) | (simp only [← app_data]; rfl)
  exact below_quiet _ _ _ _ (below_box _ _)
set_option maxRecDepth 100000 in
set_option maxHeartbeats 4000000 in
theorem first_6 (s ix c d n ln pc cdk : Int) (x y p q : Int) (ry h2 : List UInt8) (HP : Hid (OpParts c x y 6 p q)) (HG : Hid (OpGives c x y 6 p q)) (HRY : Hid (Gives 21 #[.agg #[.int .i64 s, .int .i64 ix, .int .u8 c, .int .u8 d, .int .u16 n, .int .i64 ln], .int .i64 y] (.string ⟨ry.toArray⟩))) (ryl : ry.length ≤ 16) (HH2 : Hid (Gives 46 #[.int .u16 n, .int .i64 2] (.string ⟨h2.toArray⟩))) (h2l : h2.length ≤ 8) :
    Gives 48 #[.agg #[.int .i64 s, .int .i64 ix, .int .u8 c, .int .u8 d, .int .u16 n, .int .i64 ln], .int .u16 pc] (.string ⟨([108, 100, 32] ++ ry ++ [44] ++ h2).toArray⟩) := by
  intro w
  have sz0 : ¬ 9223372036854775807 < 3 + ry.length := by omega
  have sz1 : ¬ 9223372036854775807 < 3 + ry.length + 1 := by omega
  have sz2 : ¬ 9223372036854775807 < 3 + ry.length + 1 + h2.length := by omega
  obtain ⟨k0, k1, k2, k3, k4, k5⟩ := cells6 (Blk.new w 26 [.int .i64 s, .int .i64 ix, .int .u8 c, .int .u8 d, .int .u16 n, .int .i64 ln])
  go_enter Try.func48, Try.ntmps48
  go_wp2_with (first
    | (go_at_call 25; refine (HP.out.x _).mono ?_; rintro e w' ⟨rfl, rfl⟩)
    | (go_at_call 39; refine (HP.out.y _).mono ?_; rintro e w' ⟨rfl, rfl⟩)
    | (go_at_call 22; refine (HP.out.z _).mono ?_; rintro e w' ⟨rfl, rfl⟩)
    | (go_at_call 45; refine (HP.out.p _).mono ?_; rintro e w' ⟨rfl, rfl⟩)
    | (go_at_call 43; refine (HP.out.q _).mono ?_; rintro e w' ⟨rfl, rfl⟩)
    | (go_at_call 21; refine (HRY.out _).mono ?_; rintro e w1 ⟨rfl, hb1⟩)
    | (go_at_call 46; refine (HH2.out _).mono ?_; rintro e w1 ⟨rfl, hb1⟩))
  refine wp_region_quiet_below (by kernel_rfl) (by kernel_rfl) ?_
  repeat (quiet_step (first | (go_at_call 25; exact HG.out.x.q) | (go_at_call 39; exact HG.out.y.q) | (go_at_call 22; exact HG.out.z.q) | (go_at_call 45; exact HG.out.p.q) | (go_at_call 43; exact HG.out.q.q) | (go_at_call 21; exact HRY.out.q) | (go_at_call_of 46 (Value.int .i64 2); exact HH2.out.q)))
  refine wpQuiet_nil ?_
  intro _ hwq
  obtain ⟨⟨dq, osq⟩, hwr⟩ := hwq
  subst hwr
  go_wp2
  go_ret
  refine ⟨str_of' ?_, ?_⟩
  · first | rfl | (simp only [← app_data]; done) | (simp only [← app_data]; rfl)
  exact below_quiet _ _ _ _ (below_box _ _)
set_option maxRecDepth 100000 in
set_option maxHeartbeats 4000000 in
theorem first_7 (s ix c d n ln pc cdk : Int) (x y p q : Int)  (HP : Hid (OpParts c x y 7 p q)) (HG : Hid (OpGives c x y 7 p q)) (iy : List UInt8) (hiy : ∀ u : World, (Instr.index 57 (.agg #[.string ⟨#[114, 108, 99, 97]⟩, .string ⟨#[114, 114, 99, 97]⟩, .string ⟨#[114, 108, 97]⟩, .string ⟨#[114, 114, 97]⟩, .string ⟨#[100, 97, 97]⟩, .string ⟨#[99, 112, 108]⟩, .string ⟨#[115, 99, 102]⟩, .string ⟨#[99, 99, 102]⟩]) (.int .i64 y)).run Try.prog u = .ok (.string ⟨iy.toArray⟩) u) :
    Gives 48 #[.agg #[.int .i64 s, .int .i64 ix, .int .u8 c, .int .u8 d, .int .u16 n, .int .i64 ln], .int .u16 pc] (.string ⟨(iy).toArray⟩) := by
  intro w
  go_enter Try.func48, Try.ntmps48
  go_wp2_with (first
    | (go_at_call 25; refine (HP.out.x _).mono ?_; rintro e w' ⟨rfl, rfl⟩)
    | (go_at_call 39; refine (HP.out.y _).mono ?_; rintro e w' ⟨rfl, rfl⟩)
    | (go_at_call 22; refine (HP.out.z _).mono ?_; rintro e w' ⟨rfl, rfl⟩)
    | (go_at_call 45; refine (HP.out.p _).mono ?_; rintro e w' ⟨rfl, rfl⟩)
    | (go_at_call 43; refine (HP.out.q _).mono ?_; rintro e w' ⟨rfl, rfl⟩))
  go_ret
  refine ⟨str_of' ?_, ?_⟩
  · first | rfl | (simp only [← app_data]; done) | (simp only [← app_data]; rfl)
  first | exact below_box _ _ | exact (below_box _ _).trans (hb1.mono (by simp))
end Go.Proofs.Ytjkakmmhbciilaa
