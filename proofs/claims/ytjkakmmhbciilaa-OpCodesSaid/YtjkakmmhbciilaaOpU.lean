/- The law OpCodes: its own body. -/
import Derived.Test.YtjkakmmhbciilaaOpT
import Derived.Test.YtjkakmmhbciilaaOpE
namespace Go.Proofs.Ytjkakmmhbciilaa
set_option linter.unusedSimpArgs false
set_option linter.unusedVariables false
open Go.RowKit
set_option maxHeartbeats 2000000 in
theorem opCodes_any (c : Int) (w : World) (h0 : 0 ≤ c) (h1 : c ≤ 255) : Calls Try.prog 5 #[.int .u8 c] w (Yes w) := by
  have hA := fun w => args_any c w h0 h1
  have hM := fun w => mem_any c w h0 h1
  have hA7 := fun w => args7_any c w h0 h1
  have hM7 := fun w => mem7_any c w h0 h1
  obtain ⟨e1, e2⟩ := Mi.args_eq c h0 h1
  rw [← e1] at hA7
  rw [← e2] at hM7
  obtain ⟨a, ha⟩ : ∃ a, a = Mi.argsS c := ⟨_, rfl⟩
  obtain ⟨m, hm⟩ : ∃ m, m = Mi.memS c := ⟨_, rfl⟩
  rw [← ha] at hA hA7
  rw [← hm] at hM hM7
  have HA := Lib.hid hA; have HM := Lib.hid hM; have HA7 := Lib.hid hA7; have HM7 := Lib.hid hM7
  have HL := Lib.hid lives07
  clear hA hM hA7 hM7 ha hm e1 e2
  go_enter Try.func5, Try.ntmps5
  go_wp2_with (first
    | (go_at_call 14; refine (HA.out _).mono ?_; rintro e w' ⟨rfl, rfl⟩)
    | (go_at_call 16; refine (HM.out _).mono ?_; rintro e w' ⟨rfl, rfl⟩)
    | (go_at_call 15; refine (HA7.out _).mono ?_; rintro e w1 ⟨rfl, hb1⟩)
    | (go_at_call 17; refine (HM7.out _).mono ?_; rintro e w2 ⟨rfl, hb2⟩)
    | (go_at_call 8; refine (HL.out _).mono ?_; rintro e w3 ⟨rfl, hb3⟩))
  go_ret
  exact ⟨rfl, (hb1.trans (hb2.mono hb1.size)).trans (hb3.mono (Nat.le_trans hb1.size hb2.size))⟩
end Go.Proofs.Ytjkakmmhbciilaa
