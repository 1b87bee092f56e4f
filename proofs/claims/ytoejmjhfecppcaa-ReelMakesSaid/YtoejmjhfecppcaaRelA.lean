/- Package reel: the chapter's example. -/
import Derived.Test.YtoejmjhfecppcaaRows
import Derived.Test.YtoejmjhfecppcaaFrm
import Derived.Test.YtoejmjhfecppcaaMemD
import Derived.Deep.RegionHeld3
import Derived.Deep.RegionWith
namespace Go.Proofs.Ytoejmjhfecppcaa
set_option linter.unusedSimpArgs false
set_option linter.unusedVariables false
open Go.RowKit
set_option maxHeartbeats 1000000 in
theorem shorts_two (ad : Addr) (c : Nat) (w : World) (h0 : w.cell? ad = some (.int .i64 5)) (h1 : w.cell? ⟨ad.block, ad.off + 1, none⟩ = some (.int .i64 3500)) :
    Calls Try.prog 39 #[.slice (some ad) 2 c] w fun e w' => e = .returned (.int .i64 2) ∧ w = w' := by
  go_enter Try.func39, Try.ntmps39
  go_wp2_with fail
  go_loopw [3] (fun n wr => (n = .int .i64 0 ∨ n = .int .i64 1 ∨ n = .int .i64 2) ∧ wr = w) (fun n _ => 2 - (intOf n).toNat)
  case atStart => exact ⟨.inl rfl, rfl⟩
  case round =>
    obtain ⟨h, rfl⟩ := hrel
    rcases h with rfl | rfl | rfl
    · go_wp2_with fail
      go_roundw
      case rel => exact ⟨.inr (.inl rfl), trivial⟩
      case measure => simp [intOf]
    · go_wp2_with fail
      go_roundw
      case rel => exact ⟨.inr (.inr rfl), trivial⟩
      case measure => simp [intOf]
    · go_wp2_with fail
      go_ret
      exact ⟨rfl, rfl⟩
theorem infoInt : (Try.prog.info? 3).map (fun i => (i.zero, i.size, i.bytes)) = some (some (.int .i64 0), 1, 8) := by kernel_rfl
end Go.Proofs.Ytoejmjhfecppcaa
