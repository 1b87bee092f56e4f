/-
  No cell of these rows narrows 'for every input' (looked for: loops, veiled, ifaces, maps, wideKeys, modest, calm, conditions, laid).
  DERIVED. THE GIVEN ROWS OF THIS SEAT. 4 by the template 'for every input the law returns true; each argument reads behind the call as it read before'; 0 by the template 'total and deterministic' (their statements: YtbhpmnhlmeglcaaGreatTotals.lean).
  GIVEN WITH THE SEED: the statements are not yours to turn. If you find one false, say at which input.
  Laid BY PROGRAM, IN A SANDBOX (cutbox-rows.mjs): the forced cells as the released guide's own fill.sh prints them over the translation fe073342bb63426b… (all of the seat's roots in one cut). By AI agents, Wed Nov 11 2026. No macro, syntax, notation, axiom, sorry.
-/
import Derived.Test.YtbhpmnhlmeglcaaGreatChecked
import GoSem.Claim
import GoSem.ClaimJoined
import GoSem.ClaimMapViews
import Derived.JoinedTies
import Derived.KernelRfl
namespace Go.Proofs.YtbhpmnhlmeglcaaGreat
/- THE CELL 'sum', in the pinned program and in every row, IS THE sha256 OF THE DUMP (.gsa) THAT YtbhpmnhlmeglcaaGreatProg.lean LOADS. Nothing in Lean hashes anything: it is a label: what it is worth is what the hold of that sum in a sandbox is worth. -/
noncomputable def Tryz.pinned : Pinned := { name := "ytbhpmnhlmeglcaagreat", sum := "fe073342bb63426ba1ad563ca6cb1d50a93fc807170be3b6f25e65d5915c1db2", checked := Tryz.checked }
namespace Rows
def none {H : Type} : Left H := { results := [], args := [] }

/-- 'squeallaw12.CpuTimes': WHATEVER THE INPUT: true; the input reads as it did. -/
def cpuTimesSpec : ChangeSpec := { name := "cpuTimes", fn := fun _ => fun
  | [d1, d2] => { results := [.lit (.bool true)], args := [d1, d2] }
  | _ => none }
def cpuTimesRow : OpenClaim := { program := "ytbhpmnhlmeglcaagreat", sum := "fe073342bb63426ba1ad563ca6cb1d50a93fc807170be3b6f25e65d5915c1db2", func := "squeal/squeallaw12.CpuTimes", spec := "cpuTimes", unfollowed := true, recurses := true, apart := false }
def CpuTimesSaid : Prop := cpuTimesRow.holds Tryz.pinned (OpenSpec.ofChange cpuTimesSpec)

/-- ITS FALSE NEIGHBOUR: 'it returns false'. Refute it at one input. -/
def cpuTimesWrong : ChangeSpec := { name := "cpuTimes", fn := fun _ => fun
  | [d1, d2] => { results := [.lit (.bool false)], args := [d1, d2] }
  | _ => none }
def CpuTimesWrongFalsely : Prop := cpuTimesRow.holds Tryz.pinned (OpenSpec.ofChange cpuTimesWrong)

/-- 'squeallaw12.CpuCalls': WHATEVER THE INPUT: true; the input reads as it did. -/
def cpuCallsSpec : ChangeSpec := { name := "cpuCalls", fn := fun _ => fun
  | [d1, d2] => { results := [.lit (.bool true)], args := [d1, d2] }
  | _ => none }
def cpuCallsRow : OpenClaim := { program := "ytbhpmnhlmeglcaagreat", sum := "fe073342bb63426ba1ad563ca6cb1d50a93fc807170be3b6f25e65d5915c1db2", func := "squeal/squeallaw12.CpuCalls", spec := "cpuCalls", unfollowed := true, recurses := true, apart := false }
def CpuCallsSaid : Prop := cpuCallsRow.holds Tryz.pinned (OpenSpec.ofChange cpuCallsSpec)

/-- ITS FALSE NEIGHBOUR: 'it returns false'. Refute it at one input. -/
def cpuCallsWrong : ChangeSpec := { name := "cpuCalls", fn := fun _ => fun
  | [d1, d2] => { results := [.lit (.bool false)], args := [d1, d2] }
  | _ => none }
def CpuCallsWrongFalsely : Prop := cpuCallsRow.holds Tryz.pinned (OpenSpec.ofChange cpuCallsWrong)

/-- 'squeallaw12.CpuCopies': WHATEVER THE INPUT: true; the input reads as it did. -/
def cpuCopiesSpec : ChangeSpec := { name := "cpuCopies", fn := fun _ => fun
  | [d1, d2, d3] => { results := [.lit (.bool true)], args := [d1, d2, d3] }
  | _ => none }
def cpuCopiesRow : OpenClaim := { program := "ytbhpmnhlmeglcaagreat", sum := "fe073342bb63426ba1ad563ca6cb1d50a93fc807170be3b6f25e65d5915c1db2", func := "squeal/squeallaw12.CpuCopies", spec := "cpuCopies", unfollowed := true, recurses := true, apart := false }
def CpuCopiesSaid : Prop := cpuCopiesRow.holds Tryz.pinned (OpenSpec.ofChange cpuCopiesSpec)

/-- ITS FALSE NEIGHBOUR: 'it returns false'. Refute it at one input. -/
def cpuCopiesWrong : ChangeSpec := { name := "cpuCopies", fn := fun _ => fun
  | [d1, d2, d3] => { results := [.lit (.bool false)], args := [d1, d2, d3] }
  | _ => none }
def CpuCopiesWrongFalsely : Prop := cpuCopiesRow.holds Tryz.pinned (OpenSpec.ofChange cpuCopiesWrong)

/-- 'squeallaw12.CpuNils': WHATEVER THE INPUT: true; the input reads as it did. -/
def cpuNilsSpec : ChangeSpec := { name := "cpuNils", fn := fun _ => fun
  | [d] => { results := [.lit (.bool true)], args := [d] }
  | _ => none }
def cpuNilsRow : OpenClaim := { program := "ytbhpmnhlmeglcaagreat", sum := "fe073342bb63426ba1ad563ca6cb1d50a93fc807170be3b6f25e65d5915c1db2", func := "squeal/squeallaw12.CpuNils", spec := "cpuNils", unfollowed := true, recurses := true, apart := false }
def CpuNilsSaid : Prop := cpuNilsRow.holds Tryz.pinned (OpenSpec.ofChange cpuNilsSpec)

/-- ITS FALSE NEIGHBOUR: 'it returns false'. Refute it at one input. -/
def cpuNilsWrong : ChangeSpec := { name := "cpuNils", fn := fun _ => fun
  | [d] => { results := [.lit (.bool false)], args := [d] }
  | _ => none }
def CpuNilsWrongFalsely : Prop := cpuNilsRow.holds Tryz.pinned (OpenSpec.ofChange cpuNilsWrong)

/- THE SECOND FORM. 'bulk': how many values and letters a reading holds, each counted each time it is reached (what is shared counts as often as it is met; a slice's spare places count too). A statement '..UptoSaid' is the law's where the arguments, and the package variables that the reading takes, are together of bulk at most 1048576: NARROWER than '..Said'. Prove '..Said' where nothing that the law and all that it calls make is longer than what came in: it says more and counts as full. Else prove '..UptoSaid'. A law counts once. -/
mutual
def uptoBulk {H : Type} : DataW H → Nat
  | .lit (.string bytes) => bytes.length + 1
  | .lit _ => 1
  | .nil => 1
  | .ptr d => uptoBulk d + 1
  | .slice elems spare => uptoBulkAll elems + uptoBulkAll spare + 1
  | .agg parts => uptoBulkAll parts + 1
  | .iface _ d => uptoBulk d + 1
  | .map entries => uptoBulkEntries entries + 1
  | .held _ => 1
def uptoBulkAll {H : Type} : List (DataW H) → Nat
  | [] => 0
  | d :: r => uptoBulk d + uptoBulkAll r
def uptoBulkEntries {H : Type} : List (Lit × DataW H) → Nat
  | [] => 0
  | x :: r => uptoBulkEntry x + uptoBulkEntries r
def uptoBulkEntry {H : Type} : Lit × DataW H → Nat
  | (.string bytes, d) => bytes.length + uptoBulk d + 1
  | (_, d) => uptoBulk d + 1
 end
def uptoSmall : (H : Type) → List (DataW H) → Bool := fun _ ds => decide (uptoBulkAll ds ≤ 1048576)
def OpenSpec.upto (s : _root_.Go.ChangeSpec) : _root_.Go.OpenSpec := { _root_.Go.OpenSpec.ofChange s with cond := some uptoSmall }

/-- 'squeallaw12.CpuTimes', WHERE WHAT IT READS IS OF BULK AT MOST 1048576: true; the input reads as it did. -/
def cpuTimesUptoRow : OpenClaim := { program := "ytbhpmnhlmeglcaagreat", sum := "fe073342bb63426ba1ad563ca6cb1d50a93fc807170be3b6f25e65d5915c1db2", func := "squeal/squeallaw12.CpuTimes", spec := "cpuTimes", unfollowed := true, recurses := true, apart := false, narrowed := true }
def CpuTimesUptoSaid : Prop := cpuTimesUptoRow.holds Tryz.pinned (OpenSpec.upto cpuTimesSpec)

/-- 'squeallaw12.CpuCalls', WHERE WHAT IT READS IS OF BULK AT MOST 1048576: true; the input reads as it did. -/
def cpuCallsUptoRow : OpenClaim := { program := "ytbhpmnhlmeglcaagreat", sum := "fe073342bb63426ba1ad563ca6cb1d50a93fc807170be3b6f25e65d5915c1db2", func := "squeal/squeallaw12.CpuCalls", spec := "cpuCalls", unfollowed := true, recurses := true, apart := false, narrowed := true }
def CpuCallsUptoSaid : Prop := cpuCallsUptoRow.holds Tryz.pinned (OpenSpec.upto cpuCallsSpec)

/-- 'squeallaw12.CpuCopies', WHERE WHAT IT READS IS OF BULK AT MOST 1048576: true; the input reads as it did. -/
def cpuCopiesUptoRow : OpenClaim := { program := "ytbhpmnhlmeglcaagreat", sum := "fe073342bb63426ba1ad563ca6cb1d50a93fc807170be3b6f25e65d5915c1db2", func := "squeal/squeallaw12.CpuCopies", spec := "cpuCopies", unfollowed := true, recurses := true, apart := false, narrowed := true }
def CpuCopiesUptoSaid : Prop := cpuCopiesUptoRow.holds Tryz.pinned (OpenSpec.upto cpuCopiesSpec)

/-- 'squeallaw12.CpuNils', WHERE WHAT IT READS IS OF BULK AT MOST 1048576: true; the input reads as it did. -/
def cpuNilsUptoRow : OpenClaim := { program := "ytbhpmnhlmeglcaagreat", sum := "fe073342bb63426ba1ad563ca6cb1d50a93fc807170be3b6f25e65d5915c1db2", func := "squeal/squeallaw12.CpuNils", spec := "cpuNils", unfollowed := true, recurses := true, apart := false, narrowed := true }
def CpuNilsUptoSaid : Prop := cpuNilsUptoRow.holds Tryz.pinned (OpenSpec.upto cpuNilsSpec)

end Rows
end Go.Proofs.YtbhpmnhlmeglcaaGreat
