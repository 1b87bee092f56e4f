/- wide: Add. -/
import Derived.Test.YtbhpmnhlmeglcaaGreatTWid
import Derived.Test.YtbhpmnhlmeglcaaGreatTBuQ2
namespace Go.Proofs.YtbhpmnhlmeglcaaGreat
set_option linter.unusedSimpArgs false
set_option linter.unusedVariables false
open Go.RowKit Go.Sort
def wideF (f r t : Int) : Int := bits .or .u8 (bits .or .u8 (bits .and .u8 f 196) (bits .and .u8 (r / 256) 40)) (bits .andNot .u8 t 4)
def addWF (a b f : Int) : Int := wideF f ((a + b + 0) % 65536) (toldV (halfW a b 0) (sgnW a b 0) (decide (65535 < a + b + 0)))
set_option maxRecDepth 100000 in
set_option maxHeartbeats 4000000 in
theorem wideAdd_any (a b f : Int) (w : World) (ha : B16 a) (hb : B16 b) :
    Calls Tryz.prog 68 #[.int .u16 a, .int .u16 b, .int .u8 f] w fun e w' => e = .returned (.tuple #[.int .u16 ((a + b + 0) % 65536), .int .u8 (addWF a b f)]) ∧ Below w.heap.size w w' := by
  have HP := Lib.hid (fun w => wplus_any a b 0 w ha hb (.inl rfl))
  unfold addWF wideF
  generalize halfW a b 0 = h at HP ⊢
  generalize sgnW a b 0 = o at HP ⊢
  generalize decide (65535 < a + b + 0) = c at HP ⊢
  have hr : B16 ((a + b + 0) % 65536) := ⟨by omega, by omega⟩
  generalize (a + b + 0) % 65536 = r at HP hr ⊢
  have HHI : Hid (∀ w, Calls Tryz.prog 76 #[.int .u16 r] w fun e w' => e = .returned (.int .u8 (r / 256)) ∧ w = w') := Lib.hid (fun w => wideHi_any r w hr)
  have HFL := Lib.hid (fun w => flags_any h o c w)
  generalize toldV h o c = t at HFL ⊢
  generalize r / 256 = hi at HHI ⊢
  clear ha hb hr
  go_enter Tryz.func68, Tryz.ntmps68
  go_upto_region 2 with (first
    | (go_at_call 108; refine (HP.out _).mono ?_; rintro e u ⟨rfl, hb1⟩; have HB1 := Lib.hid hb1; clear hb1))
  have HUS : Hid (Below w.heap.size w (u.alloc (.cells #[.bool h, .bool o, .bool c] 114))) := Lib.hid (HB1.out.alloc HB1.out.size _)
  have HL : Hid ((u.alloc (.cells #[.bool h, .bool o, .bool c] 114)).rangeAt u.heap.size 0 [.bool h, .bool o, .bool c]) := Lib.hid (blk_range (Blk.new u _ [.bool h, .bool o, .bool c]))
  have HG1 : Hid (Gives 76 #[.int .u16 r] (.int .u8 hi)) := Lib.hid (gives_same fun w => same_swap (HHI.out w))
  have HG2 : Hid (Gives 109 #[.agg #[.bool h, .bool o, .bool c]] (.int .u8 t)) := Lib.hid (fun w => HFL.out w)
  generalize hw2 : u.alloc (.cells #[.bool h, .bool o, .bool c] 114) = w2 at HUS HL ⊢
  refine wp_region_quiet_below (by kernel_rfl) (by kernel_rfl) ?_
  repeat (first
    | (refine quiet_load rfl 114 (.tmp 9) rfl u.heap.size rfl [.bool h, .bool o, .bool c] _ (range_quiet HL.out) Tryz.underlying114 rfl (by kernel_rfl) ?_)
    | quiet_step (first | (go_at_call 76; exact HG1.out.q) | (go_at_call 109; exact HG2.out.q)))
  refine wpQuiet_nil ?_
  intro v hwq
  have HB3 : Hid (Below w2.heap.size w2 v) := by obtain ⟨p, rfl⟩ := hwq; exact Lib.hid (below_regrown w2 p.d p.os)
  clear hwq
  go_wp2
  go_ret2
  exact ⟨rfl, HUS.out.trans (HB3.out.mono HUS.out.size)⟩
end Go.Proofs.YtbhpmnhlmeglcaaGreat
