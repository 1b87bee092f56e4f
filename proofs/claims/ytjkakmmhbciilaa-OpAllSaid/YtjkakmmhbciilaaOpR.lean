/- op.Show at the three instructions of the chapter's example; lives. -/
import Derived.Test.YtjkakmmhbciilaaOpQ
namespace Go.Proofs.Ytjkakmmhbciilaa
set_option linter.unusedSimpArgs false
set_option linter.unusedVariables false
open Go.RowKit
/-- a text is handed back, in grown memory -/
def Text (t : List UInt8) (w : World) (e : Ending) (w' : World) : Prop := e = .returned (.string ⟨t.toArray⟩) ∧ Below w.heap.size w w'
theorem str_of {a b : ByteArray} (h : a = b) : Ending.returned (.string a) = .returned (.string b) := by rw [h]
set_option maxHeartbeats 2000000 in
/-- jr -/
theorem first_jr (ix d n ln pc : Int) (w : World) (hn : B16 n) (hl : 0 ≤ ln ∧ ln ≤ 8) (hp : B16 pc) : Calls Try.prog 48 #[.agg #[.int .i64 0, .int .i64 ix, .int .u8 24, .int .u8 d, .int .u16 n, .int .i64 ln], .int .u16 pc] w (Text ([106, 114, 32] ++ targetS n ln pc) w) := by
  have HP : Hid (OpParts 24 0 3 0 1 1) := op_parts 24 (by omega) (by omega)
  have HT := Lib.hid (fun w => target_any 0 ix 24 d n ln pc w hn hl hp)
  have tl : (targetS n ln pc).length = 5 := hxS_len 4 _
  obtain ⟨t, ht⟩ : ∃ t, t = targetS n ln pc := ⟨_, rfl⟩
  rw [← ht] at HT tl ⊢
  have tl2 : t.length ≤ 5 := by omega
  clear tl ht
  go_enter Try.func48, Try.ntmps48
  go_wp2_with (first
    | (go_at_call 22; refine (HP.out.z _).mono ?_; rintro e w' ⟨rfl, rfl⟩)
    | (go_at_call 39; refine (HP.out.y _).mono ?_; rintro e w' ⟨rfl, rfl⟩)
    | (go_at_call 60; refine (HT.out _).mono ?_; rintro e w1 ⟨rfl, hb⟩))
  go_ret
  exact ⟨str_of (app_data [106, 114, 32] t), ((Below.refl _ w).alloc (Nat.le_refl _) _).trans (hb.mono (by simp))⟩
set_option maxHeartbeats 2000000 in
/-- ld hl, -/
theorem first_ld (d n ln pc : Int) (w : World) (hn : B16 n) : Calls Try.prog 48 #[.agg #[.int .i64 0, .int .i64 0, .int .u8 33, .int .u8 d, .int .u16 n, .int .i64 ln], .int .u16 pc] w (Text ([108, 100, 32, 104, 108, 44] ++ hxS 4 n) w) := by
  have HP : Hid (OpParts 33 0 4 1 2 0) := op_parts 33 (by omega) (by omega)
  have h2 := fun w => pair2_any 0 0 33 d n ln w
  have e : hlS 0 0 = [104, 108] := by decide
  rw [e] at h2
  have H2 := Lib.hid h2
  have HT := Lib.hid (fun w => hxS_any 4 n w hn (by decide))
  have tl : (hxS 4 n).length = 5 := hxS_len 4 _
  obtain ⟨t, ht⟩ : ∃ t, t = hxS 4 n := ⟨_, rfl⟩
  rw [← ht] at HT tl ⊢
  have tl2 : t.length ≤ 5 := by omega
  clear tl ht h2 e
  go_enter Try.func48, Try.ntmps48
  go_wp2_with (first
    | (go_at_call 22; refine (HP.out.z _).mono ?_; rintro e w' ⟨rfl, rfl⟩)
    | (go_at_call 43; refine (HP.out.q _).mono ?_; rintro e w' ⟨rfl, rfl⟩))
  go_region_with (first
    | (go_at_call 45; refine (HP.out.p _).mono ?_; rintro e w' ⟨rfl, rfl⟩)
    | (go_at_call 44; refine (H2.out _).mono ?_; rintro e w1 ⟨rfl, hb⟩; obtain ⟨hc, hf⟩ := bcell hb)
    | (go_at_call 46; refine (HT.out _).mono ?_; rintro e w2 ⟨rfl, hb2⟩; obtain ⟨hc2, hf2⟩ := bcell hb2))
  all_goals
    go_wp2_with fail
    go_ret
    refine ⟨str_of ?_, ?_⟩
    · show (((⟨[108, 100, 32].toArray⟩ : ByteArray) ++ ⟨[104, 108].toArray⟩) ++ ⟨[44].toArray⟩) ++ ⟨t.toArray⟩ = _
      rw [app_data, app_data, app_data]
      rfl
    · first
        | exact (((Below.refl _ w).alloc (Nat.le_refl _) _).drew.trans (hb.mono (by simp))).trans (hb2.mono (by have := hb.size; simp at this; omega))
        | exact (((Below.refl _ w).alloc (Nat.le_refl _) _).trans (hb.mono (by simp))).trans (hb2.mono (by have := hb.size; simp at this; omega))
end Go.Proofs.Ytjkakmmhbciilaa
