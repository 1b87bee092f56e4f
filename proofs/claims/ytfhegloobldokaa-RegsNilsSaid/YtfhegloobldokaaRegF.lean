/- The law RegsNils: its own body. -/
import Derived.Test.YtfhegloobldokaaRegE
import Derived.Handy
namespace Go.Proofs.Ytfhegloobldokaa
set_option linter.unusedSimpArgs false
set_option linter.unusedVariables false
open Go.RowKit
def Nothing (w : World) (e : Ending) (w' : World) : Prop := e = .returned (.tuple #[]) ∧ w = w'
set_option maxHeartbeats 1000000 in
theorem nil_putByte (k ix v : Int) (w : World) : Calls Try.prog 25 #[.pointer none, .int .i64 k, .int .i64 ix, .int .u8 v] w (Nothing w) := by
  go_enter Try.func25, Try.ntmps25
  go_wp2
  go_returns
  exact ⟨rfl, rfl⟩
set_option maxHeartbeats 1000000 in
theorem nil_putPair (k ix v : Int) (w : World) : Calls Try.prog 19 #[.pointer none, .int .i64 k, .int .i64 ix, .int .u16 v] w (Nothing w) := by
  go_enter Try.func19, Try.ntmps19
  go_wp2
  go_returns
  exact ⟨rfl, rfl⟩
set_option maxHeartbeats 1000000 in
theorem nil_putAf (v : Int) (w : World) : Calls Try.prog 20 #[.pointer none, .int .u16 v] w (Nothing w) := by
  go_enter Try.func20, Try.ntmps20
  go_wp2
  go_returns
  exact ⟨rfl, rfl⟩
set_option maxHeartbeats 1000000 in
theorem nil_exAf (w : World) : Calls Try.prog 29 #[.pointer none] w (Nothing w) := by
  go_enter Try.func29, Try.ntmps29
  go_wp2
  go_returns
  exact ⟨rfl, rfl⟩
set_option maxHeartbeats 1000000 in
theorem nil_exx (w : World) : Calls Try.prog 30 #[.pointer none] w (Nothing w) := by
  go_enter Try.func30, Try.ntmps30
  go_wp2
  go_returns
  exact ⟨rfl, rfl⟩
set_option maxHeartbeats 1000000 in
theorem nil_exDe (w : World) : Calls Try.prog 31 #[.pointer none] w (Nothing w) := by
  go_enter Try.func31, Try.ntmps31
  go_wp2
  go_returns
  exact ⟨rfl, rfl⟩
set_option maxHeartbeats 1000000 in
theorem nil_tick (w : World) : Calls Try.prog 12 #[.pointer none] w (Nothing w) := by
  go_enter Try.func12, Try.ntmps12
  go_wp2
  go_returns
  exact ⟨rfl, rfl⟩
set_option maxHeartbeats 1000000 in
theorem nil_byte (k ix : Int) (w : World) : Calls Try.prog 27 #[.pointer none, .int .i64 k, .int .i64 ix] w fun e w' => e = .returned (.int .u8 0) ∧ w = w' := by
  go_enter Try.func27, Try.ntmps27
  go_wp2
  go_returns
  exact ⟨rfl, rfl⟩
set_option maxHeartbeats 1000000 in
theorem nil_pair (k ix : Int) (w : World) : Calls Try.prog 21 #[.pointer none, .int .i64 k, .int .i64 ix] w fun e w' => e = .returned (.int .u16 0) ∧ w = w' := by
  go_enter Try.func21, Try.ntmps21
  go_wp2
  go_returns
  exact ⟨rfl, rfl⟩
set_option maxHeartbeats 1000000 in
theorem nil_af (w : World) : Calls Try.prog 24 #[.pointer none] w fun e w' => e = .returned (.int .u16 0) ∧ w = w' := by
  go_enter Try.func24, Try.ntmps24
  go_wp2
  go_returns
  exact ⟨rfl, rfl⟩
set_option maxHeartbeats 1000000 in
theorem nil_ir (w : World) : Calls Try.prog 14 #[.pointer none] w fun e w' => e = .returned (.int .u16 0) ∧ w = w' := by
  go_enter Try.func14, Try.ntmps14
  go_wp2
  go_returns
  exact ⟨rfl, rfl⟩
set_option maxRecDepth 100000 in
set_option maxHeartbeats 1000000 in
theorem nil_show (w : World) : Calls Try.prog 15 #[.pointer none] w fun e w' => e = .returned (.string ⟨#[]⟩) ∧ w = w' := by
  go_enter Try.func15, Try.ntmps15
  go_wp2
  go_returns
  exact ⟨rfl, rfl⟩
set_option maxHeartbeats 1000000 in
theorem nil_same (w : World) : Calls Try.prog 17 #[.pointer none, .pointer none] w fun e w' => e = .returned (.bool true) ∧ w = w' := by
  go_enter Try.func17, Try.ntmps17
  go_wp2
  go_returns
  exact ⟨rfl, rfl⟩
set_option maxHeartbeats 1000000 in
theorem nil_same2 (a : Addr) (w : World) : Calls Try.prog 17 #[.pointer none, .pointer (some a)] w fun e w' => e = .returned (.bool false) ∧ w = w' := by
  go_enter Try.func17, Try.ntmps17
  go_wp2
  go_returns
  exact ⟨rfl, rfl⟩
set_option maxRecDepth 100000 in
set_option maxHeartbeats 4000000 in
theorem regsNils_any (k ix v : Int) (w : World) : Calls Try.prog 7 #[.int .i64 k, .int .i64 ix, .int .u16 v] w (Yes w) := by
  go_enter Try.func7, Try.ntmps7
  go_wp2_with (first
    | (refine wpList_store_rowTo rfl 24 (.tmp 8) (.tmp 9) rfl rfl w.heap.size _ rfl rfl 24 _ (heap_alloc_new w _) infoRegs rfl zero_one ?_; rw [World.setRow_alloc_new])
    | (go_at_call 25; refine (nil_putByte _ _ _ _).mono ?_; rintro e w' ⟨rfl, rfl⟩)
    | (go_at_call 19; refine (nil_putPair _ _ _ _).mono ?_; rintro e w' ⟨rfl, rfl⟩)
    | (go_at_call 20; refine (nil_putAf _ _).mono ?_; rintro e w' ⟨rfl, rfl⟩)
    | (go_at_call 29; refine (nil_exAf _).mono ?_; rintro e w' ⟨rfl, rfl⟩)
    | (go_at_call 30; refine (nil_exx _).mono ?_; rintro e w' ⟨rfl, rfl⟩)
    | (go_at_call 31; refine (nil_exDe _).mono ?_; rintro e w' ⟨rfl, rfl⟩)
    | (go_at_call 12; refine (nil_tick _).mono ?_; rintro e w' ⟨rfl, rfl⟩)
    | (go_at_call 27; refine (nil_byte _ _ _).mono ?_; rintro e w' ⟨rfl, rfl⟩)
    | (go_at_call 21; refine (nil_pair _ _ _).mono ?_; rintro e w' ⟨rfl, rfl⟩)
    | (go_at_call 24; refine (nil_af _).mono ?_; rintro e w' ⟨rfl, rfl⟩)
    | (go_at_call 14; refine (nil_ir _).mono ?_; rintro e w' ⟨rfl, rfl⟩)
    | (go_at_call 15; refine (nil_show _).mono ?_; rintro e w' ⟨rfl, rfl⟩)
    | (go_at_call_of 17 (⟨w.heap.size, 0, none⟩ : Addr); refine (nil_same2 _ _).mono ?_; rintro e w' ⟨rfl, rfl⟩)
    | (go_at_call 17; refine (nil_same _).mono ?_; rintro e w' ⟨rfl, rfl⟩)
    | (go_at_call 18; refine (lives06 _).mono ?_; rintro e w' ⟨rfl, hb⟩))
  go_ret
  exact ⟨rfl, ((Below.refl _ w).alloc (Nat.le_refl _) _).trans (hb.mono (by simp))⟩
end Go.Proofs.Ytfhegloobldokaa
