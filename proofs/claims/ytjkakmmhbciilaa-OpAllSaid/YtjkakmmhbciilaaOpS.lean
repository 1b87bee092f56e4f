/- The laws of stage 7: lives. -/
import Derived.Test.YtjkakmmhbciilaaOpR
namespace Go.Proofs.Ytjkakmmhbciilaa
set_option linter.unusedSimpArgs false
set_option linter.unusedVariables false
open Go.RowKit
set_option maxHeartbeats 2000000 in
theorem plain_low (c : Int) (i : Value) (ix d n ln pc : Int) (t : List UInt8) (hc0 : 0 ≤ c) (hc1 : c < 64)
    (h : ∀ w, Calls Try.prog 48 #[.agg #[.int .i64 0, .int .i64 ix, .int .u8 c, .int .u8 d, .int .u16 n, .int .i64 ln], .int .u16 pc] w (Text t w)) (w : World) :
    Calls Try.prog 27 #[.agg #[.int .i64 0, .int .i64 ix, .int .u8 c, .int .u8 d, .int .u16 n, .int .i64 ln], .int .u16 pc] w (Text t w) := by
  have H := Lib.hid h
  have hp := op_parts c hc0 (by omega)
  have e0 : c / 64 = 0 := by omega
  rw [e0] at hp
  have HP := Lib.hid hp
  clear h hp e0 hc0 hc1
  go_enter Try.func27, Try.ntmps27
  go_wp2_with (first
    | (go_at_call 25; refine (HP.out.x _).mono ?_; rintro e w' ⟨rfl, rfl⟩)
    | (go_at_call 48; refine (H.out _).mono ?_; rintro e w1 ⟨rfl, hb⟩))
  go_ret
  exact ⟨rfl, ((Below.refl _ w).alloc (Nat.le_refl _) _).trans (hb.mono (by simp))⟩
set_option maxHeartbeats 2000000 in
theorem show_plain (ix c d n ln pc : Int) (t : List UInt8) (h : ∀ w, Calls Try.prog 27 #[.agg #[.int .i64 0, .int .i64 ix, .int .u8 c, .int .u8 d, .int .u16 n, .int .i64 ln], .int .u16 pc] w (Text t w)) (w : World) :
    Calls Try.prog 12 #[.agg #[.int .i64 0, .int .i64 ix, .int .u8 c, .int .u8 d, .int .u16 n, .int .i64 ln], .int .u16 pc] w (Text t w) := by
  have H := Lib.hid h
  clear h
  go_enter Try.func12, Try.ntmps12
  go_wp2_with (first
    | (go_at_call 27; refine (H.out _).mono ?_; rintro e w1 ⟨rfl, hb⟩))
  go_ret
  exact ⟨rfl, ((Below.refl _ w).alloc (Nat.le_refl _) _).trans (hb.mono (by simp))⟩
set_option maxHeartbeats 4000000 in
theorem plain_ld (w : World) : Calls Try.prog 27 #[.agg #[.int .i64 0, .int .i64 1, .int .u8 126, .int .u8 251, .int .u16 0, .int .i64 3], .int .u16 0] w (Text [108, 100, 32, 97, 44, 40, 105, 120, 45, 53, 41] w) := by
  have h7 := fun w => reg_any 0 1 126 251 0 3 7 w (by omega) (by omega) ⟨by omega, by omega⟩ (by omega)
  have h6 := fun w => reg_any 0 1 126 251 0 3 6 w (by omega) (by omega) ⟨by omega, by omega⟩ (by omega)
  have e7 : regS 0 1 126 251 7 = [97] := by decide +kernel
  have e6 : regS 0 1 126 251 6 = [40, 105, 120, 45, 53, 41] := by decide +kernel
  rw [e7] at h7
  rw [e6] at h6
  have H7 : Hid (∀ w, Calls Try.prog 21 #[.agg #[.int .i64 0, .int .i64 1, .int .u8 126, .int .u8 251, .int .u16 0, .int .i64 3], .int .i64 7] w (Text [97] w)) := h7
  have H6 : Hid (∀ w, Calls Try.prog 21 #[.agg #[.int .i64 0, .int .i64 1, .int .u8 126, .int .u8 251, .int .u16 0, .int .i64 3], .int .i64 6] w (Text [40, 105, 120, 45, 53, 41] w)) := h6
  have HP : Hid (OpParts 126 1 7 6 3 1) := op_parts 126 (by omega) (by omega)
  clear h7 h6 e7 e6
  go_enter Try.func27, Try.ntmps27
  go_wp2_with (first
    | (go_at_call 25; refine (HP.out.x _).mono ?_; rintro e w' ⟨rfl, rfl⟩))
  go_region_with (first
    | (go_at_call 39; refine (HP.out.y _).mono ?_; rintro e w' ⟨rfl, rfl⟩)
    | (go_at_call 22; refine (HP.out.z _).mono ?_; rintro e w' ⟨rfl, rfl⟩)
    | (go_at_call_of 21 (Value.int .i64 7); refine (H7.out _).mono ?_; rintro e w1 ⟨rfl, hb⟩; obtain ⟨hc, hf⟩ := bcell hb)
    | (go_at_call_of 21 (Value.int .i64 6); refine (H6.out _).mono ?_; rintro e w2 ⟨rfl, hb2⟩; obtain ⟨hc2, hf2⟩ := bcell hb2))
  all_goals
    go_wp2_with fail
    go_ret
    refine ⟨str_of (by first | rfl | decide +kernel), ?_⟩
    first
      | exact (((Below.refl _ w).alloc (Nat.le_refl _) _).drew.trans (hb.mono (by simp))).trans (hb2.mono (by have := hb.size; simp at this; omega))
      | exact (((Below.refl _ w).alloc (Nat.le_refl _) _).trans (hb.mono (by simp))).trans (hb2.mono (by have := hb.size; simp at this; omega))
end Go.Proofs.Ytjkakmmhbciilaa
