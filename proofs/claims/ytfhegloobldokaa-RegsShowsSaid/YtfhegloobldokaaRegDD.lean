/- regs.Same. -/
import Derived.Test.YtfhegloobldokaaRegBB
import Derived.BigQuiet
namespace Go.Proofs.Ytfhegloobldokaa
set_option linter.unusedSimpArgs false
set_option linter.unusedVariables false
open Go.RowKit
set_option maxRecDepth 100000 in
set_option maxHeartbeats 4000000 in
theorem same_any (E : Bool) (g1 g2 : Nat) (CA CB : Array Value) (w : World) (sA : CA.size = 30) (sB : CB.size = 30)
    (hE : ∀ u : World, (binOp .eql 24 (.agg CA) (.agg CB)).run Try.prog u = .ok (.bool E) u)
    (h1 : w.heap[g1]? = some (.cells CA 24 (0, 0))) (h2 : w.heap[g2]? = some (.cells CB 24 (0, 0))) :
    Calls Try.prog 17 #[.pointer (some ⟨g1, 0, none⟩), .pointer (some ⟨g2, 0, none⟩)] w fun e w' => e = .returned (.bool E) ∧ Below w.heap.size w w' := by
  obtain ⟨LD, hl⟩ := some_LD
  have HLD := Lib.hid hl
  have l1 : ∀ n, LD g1 (w.drewN n) = .ok (.agg CA) (w.drewN n) := fun n => LD_of hl sA h1
  have l2 : ∀ n, LD g2 (w.drewN n) = .ok (.agg CB) (w.drewN n) := fun n => LD_of hl sB h2
  have l1' : LD g1 w.drew = .ok (.agg CA) w.drew := LD_of hl sA h1
  have l2' : LD g2 w.drew = .ok (.agg CB) w.drew := LD_of hl sB h2
  have hN3 : ∀ u : World, (loadVar 24 ⟨g1, 0, none⟩).run Try.prog u = LD g1 u := fun u => HLD.out _ u
  have hN7 : ∀ u : World, (loadVar 24 ⟨g2, 0, none⟩).run Try.prog u = LD g2 u := fun u => HLD.out _ u
  simp [go_sem, loadVar] at hN3 hN7
  clear hl sA sB h1 h2
  go_enter Try.func17, Try.ntmps17
  go_wp2_with fail
  go_quiet (fail)
  go_wp2_with fail
  go_ret
  exact ⟨rfl, Below_drewN (Below.refl _ w) _⟩
end Go.Proofs.Ytfhegloobldokaa
