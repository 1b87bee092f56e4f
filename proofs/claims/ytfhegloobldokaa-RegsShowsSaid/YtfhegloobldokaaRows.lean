/-
  No cell of these rows narrows 'for every input' (looked for: loops, veiled, ifaces, maps, wideKeys, modest, calm, conditions, laid).
  DERIVED. THE GIVEN ROWS OF THIS SEAT. 9 by the template 'for every input the law returns true; each argument reads behind the call as it read before'; 0 by the template 'total and deterministic' (their statements: YtfhegloobldokaaTotals.lean).
  GIVEN WITH THE SEED: the statements are not yours to turn. If you find one false, say at which input.
  Laid BY PROGRAM, IN A SANDBOX (cutbox-rows.mjs): the forced cells as the released guide's own fill.sh prints them over the translation b177c1b602e85b0c… (all of the seat's roots in one cut). By AI agents, Wed Nov 11 2026. No macro, syntax, notation, axiom, sorry.
-/
import Derived.Test.YtfhegloobldokaaChecked
import GoSem.Claim
import GoSem.ClaimJoined
import GoSem.ClaimMapViews
import Derived.JoinedTies
import Derived.KernelRfl
namespace Go.Proofs.Ytfhegloobldokaa
/- THE CELL 'sum', in the pinned program and in every row, IS THE sha256 OF THE DUMP (.gsa) THAT YtfhegloobldokaaProg.lean LOADS. Nothing in Lean hashes anything: it is a label: what it is worth is what the hold of that sum in a sandbox is worth. -/
noncomputable def Try.pinned : Pinned := { name := "ytfhegloobldokaa", sum := "b177c1b602e85b0c9e25ae872fd8b94112328a5e4168b6403a2378f7236db67a", checked := Try.checked }
namespace Rows
def none {H : Type} : Left H := { results := [], args := [] }

/-- 'squeallaw06.RegsShows': WHATEVER THE INPUT: true; the input reads as it did. -/
def regsShowsSpec : ChangeSpec := { name := "regsShows", fn := fun _ => fun
  | [d1, d2] => { results := [.lit (.bool true)], args := [d1, d2] }
  | _ => none }
def regsShowsRow : OpenClaim := { program := "ytfhegloobldokaa", sum := "b177c1b602e85b0c9e25ae872fd8b94112328a5e4168b6403a2378f7236db67a", func := "squeal/squeallaw06.RegsShows", spec := "regsShows", inPlace := ["internal/abi.NoEscape", "internal/bytealg.MakeNoZero"], apart := false }
def RegsShowsSaid : Prop := regsShowsRow.holds Try.pinned (OpenSpec.ofChange regsShowsSpec)

/-- ITS FALSE NEIGHBOUR: 'it returns false'. Refute it at one input. -/
def regsShowsWrong : ChangeSpec := { name := "regsShows", fn := fun _ => fun
  | [d1, d2] => { results := [.lit (.bool false)], args := [d1, d2] }
  | _ => none }
def RegsShowsWrongFalsely : Prop := regsShowsRow.holds Try.pinned (OpenSpec.ofChange regsShowsWrong)

/-- 'squeallaw06.RegsPairs': WHATEVER THE INPUT: true; the input reads as it did. -/
def regsPairsSpec : ChangeSpec := { name := "regsPairs", fn := fun _ => fun
  | [d1, d2, d3] => { results := [.lit (.bool true)], args := [d1, d2, d3] }
  | _ => none }
def regsPairsRow : OpenClaim := { program := "ytfhegloobldokaa", sum := "b177c1b602e85b0c9e25ae872fd8b94112328a5e4168b6403a2378f7236db67a", func := "squeal/squeallaw06.RegsPairs", spec := "regsPairs", inPlace := ["internal/abi.NoEscape", "internal/bytealg.MakeNoZero"], apart := false }
def RegsPairsSaid : Prop := regsPairsRow.holds Try.pinned (OpenSpec.ofChange regsPairsSpec)

/-- ITS FALSE NEIGHBOUR: 'it returns false'. Refute it at one input. -/
def regsPairsWrong : ChangeSpec := { name := "regsPairs", fn := fun _ => fun
  | [d1, d2, d3] => { results := [.lit (.bool false)], args := [d1, d2, d3] }
  | _ => none }
def RegsPairsWrongFalsely : Prop := regsPairsRow.holds Try.pinned (OpenSpec.ofChange regsPairsWrong)

/-- 'squeallaw06.RegsBytes': WHATEVER THE INPUT: true; the input reads as it did. -/
def regsBytesSpec : ChangeSpec := { name := "regsBytes", fn := fun _ => fun
  | [d1, d2, d3] => { results := [.lit (.bool true)], args := [d1, d2, d3] }
  | _ => none }
def regsBytesRow : OpenClaim := { program := "ytfhegloobldokaa", sum := "b177c1b602e85b0c9e25ae872fd8b94112328a5e4168b6403a2378f7236db67a", func := "squeal/squeallaw06.RegsBytes", spec := "regsBytes", inPlace := ["internal/abi.NoEscape", "internal/bytealg.MakeNoZero"], apart := false }
def RegsBytesSaid : Prop := regsBytesRow.holds Try.pinned (OpenSpec.ofChange regsBytesSpec)

/-- ITS FALSE NEIGHBOUR: 'it returns false'. Refute it at one input. -/
def regsBytesWrong : ChangeSpec := { name := "regsBytes", fn := fun _ => fun
  | [d1, d2, d3] => { results := [.lit (.bool false)], args := [d1, d2, d3] }
  | _ => none }
def RegsBytesWrongFalsely : Prop := regsBytesRow.holds Try.pinned (OpenSpec.ofChange regsBytesWrong)

/-- 'squeallaw06.RegsBack': WHATEVER THE INPUT: true; the input reads as it did. -/
def regsBackSpec : ChangeSpec := { name := "regsBack", fn := fun _ => fun
  | [d1, d2, d3] => { results := [.lit (.bool true)], args := [d1, d2, d3] }
  | _ => none }
def regsBackRow : OpenClaim := { program := "ytfhegloobldokaa", sum := "b177c1b602e85b0c9e25ae872fd8b94112328a5e4168b6403a2378f7236db67a", func := "squeal/squeallaw06.RegsBack", spec := "regsBack", inPlace := ["internal/abi.NoEscape", "internal/bytealg.MakeNoZero"], apart := false }
def RegsBackSaid : Prop := regsBackRow.holds Try.pinned (OpenSpec.ofChange regsBackSpec)

/-- ITS FALSE NEIGHBOUR: 'it returns false'. Refute it at one input. -/
def regsBackWrong : ChangeSpec := { name := "regsBack", fn := fun _ => fun
  | [d1, d2, d3] => { results := [.lit (.bool false)], args := [d1, d2, d3] }
  | _ => none }
def RegsBackWrongFalsely : Prop := regsBackRow.holds Try.pinned (OpenSpec.ofChange regsBackWrong)

/-- 'squeallaw06.RegsNils': WHATEVER THE INPUT: true; the input reads as it did. -/
def regsNilsSpec : ChangeSpec := { name := "regsNils", fn := fun _ => fun
  | [d1, d2, d3] => { results := [.lit (.bool true)], args := [d1, d2, d3] }
  | _ => none }
def regsNilsRow : OpenClaim := { program := "ytfhegloobldokaa", sum := "b177c1b602e85b0c9e25ae872fd8b94112328a5e4168b6403a2378f7236db67a", func := "squeal/squeallaw06.RegsNils", spec := "regsNils", inPlace := ["internal/abi.NoEscape", "internal/bytealg.MakeNoZero"], apart := false }
def RegsNilsSaid : Prop := regsNilsRow.holds Try.pinned (OpenSpec.ofChange regsNilsSpec)

/-- ITS FALSE NEIGHBOUR: 'it returns false'. Refute it at one input. -/
def regsNilsWrong : ChangeSpec := { name := "regsNils", fn := fun _ => fun
  | [d1, d2, d3] => { results := [.lit (.bool false)], args := [d1, d2, d3] }
  | _ => none }
def RegsNilsWrongFalsely : Prop := regsNilsRow.holds Try.pinned (OpenSpec.ofChange regsNilsWrong)

/-- 'squeallaw08.MicroTimes': WHATEVER THE INPUT: true; the input reads as it did. -/
def microTimesSpec : ChangeSpec := { name := "microTimes", fn := fun _ => fun
  | [d1, d2, d3] => { results := [.lit (.bool true)], args := [d1, d2, d3] }
  | _ => none }
def microTimesRow : OpenClaim := { program := "ytfhegloobldokaa", sum := "b177c1b602e85b0c9e25ae872fd8b94112328a5e4168b6403a2378f7236db67a", func := "squeal/squeallaw08.MicroTimes", spec := "microTimes", apart := false }
def MicroTimesSaid : Prop := microTimesRow.holds Try.pinned (OpenSpec.ofChange microTimesSpec)

/-- ITS FALSE NEIGHBOUR: 'it returns false'. Refute it at one input. -/
def microTimesWrong : ChangeSpec := { name := "microTimes", fn := fun _ => fun
  | [d1, d2, d3] => { results := [.lit (.bool false)], args := [d1, d2, d3] }
  | _ => none }
def MicroTimesWrongFalsely : Prop := microTimesRow.holds Try.pinned (OpenSpec.ofChange microTimesWrong)

/-- 'squeallaw08.MicroAll': WHATEVER THE INPUT: true; the input reads as it did. -/
def microAllSpec : ChangeSpec := { name := "microAll", fn := fun _ => fun
  | [d] => { results := [.lit (.bool true)], args := [d] }
  | _ => none }
def microAllRow : OpenClaim := { program := "ytfhegloobldokaa", sum := "b177c1b602e85b0c9e25ae872fd8b94112328a5e4168b6403a2378f7236db67a", func := "squeal/squeallaw08.MicroAll", spec := "microAll", apart := false }
def MicroAllSaid : Prop := microAllRow.holds Try.pinned (OpenSpec.ofChange microAllSpec)

/-- ITS FALSE NEIGHBOUR: 'it returns false'. Refute it at one input. -/
def microAllWrong : ChangeSpec := { name := "microAll", fn := fun _ => fun
  | [d] => { results := [.lit (.bool false)], args := [d] }
  | _ => none }
def MicroAllWrongFalsely : Prop := microAllRow.holds Try.pinned (OpenSpec.ofChange microAllWrong)

/-- 'squeallaw08.MicroSound': WHATEVER THE INPUT: true; the input reads as it did. -/
def microSoundSpec : ChangeSpec := { name := "microSound", fn := fun _ => fun
  | [d1, d2, d3] => { results := [.lit (.bool true)], args := [d1, d2, d3] }
  | _ => none }
def microSoundRow : OpenClaim := { program := "ytfhegloobldokaa", sum := "b177c1b602e85b0c9e25ae872fd8b94112328a5e4168b6403a2378f7236db67a", func := "squeal/squeallaw08.MicroSound", spec := "microSound", apart := false }
def MicroSoundSaid : Prop := microSoundRow.holds Try.pinned (OpenSpec.ofChange microSoundSpec)

/-- ITS FALSE NEIGHBOUR: 'it returns false'. Refute it at one input. -/
def microSoundWrong : ChangeSpec := { name := "microSound", fn := fun _ => fun
  | [d1, d2, d3] => { results := [.lit (.bool false)], args := [d1, d2, d3] }
  | _ => none }
def MicroSoundWrongFalsely : Prop := microSoundRow.holds Try.pinned (OpenSpec.ofChange microSoundWrong)

/-- 'squeallaw08.MicroReads': WHATEVER THE INPUT: true; the input reads as it did. -/
def microReadsSpec : ChangeSpec := { name := "microReads", fn := fun _ => fun
  | [d1, d2] => { results := [.lit (.bool true)], args := [d1, d2] }
  | _ => none }
def microReadsRow : OpenClaim := { program := "ytfhegloobldokaa", sum := "b177c1b602e85b0c9e25ae872fd8b94112328a5e4168b6403a2378f7236db67a", func := "squeal/squeallaw08.MicroReads", spec := "microReads", apart := false }
def MicroReadsSaid : Prop := microReadsRow.holds Try.pinned (OpenSpec.ofChange microReadsSpec)

/-- ITS FALSE NEIGHBOUR: 'it returns false'. Refute it at one input. -/
def microReadsWrong : ChangeSpec := { name := "microReads", fn := fun _ => fun
  | [d1, d2] => { results := [.lit (.bool false)], args := [d1, d2] }
  | _ => none }
def MicroReadsWrongFalsely : Prop := microReadsRow.holds Try.pinned (OpenSpec.ofChange microReadsWrong)

/- THE SECOND FORM. 'bulk': how many values and letters a reading holds, each counted each time it is reached (what is shared counts as often as it is met; a slice's spare places count too). A statement '..UptoSaid' is the law's where the arguments, and the package variables that the reading takes, are together of bulk at most 1048576: NARROWER than '..Said'. Prove '..Said' where nothing that the law and all that it calls make is longer than what came in: it says more and counts as full. Else prove '..UptoSaid'. A law counts once. -/
mutual
def uptoBulk {H : Type} : DataW H → Nat
  | .lit (.string bytes) => bytes.length + 1
  | .lit _ => 1
  | .nil => 1
  | .ptr d => uptoBulk d + 1
  | .slice elems spare => uptoBulkAll elems + uptoBulkAll spare + 1
  | .agg parts => uptoBulkAll parts + 1
  | .iface _ d => uptoBulk d + 1
  | .map entries => uptoBulkEntries entries + 1
  | .held _ => 1
def uptoBulkAll {H : Type} : List (DataW H) → Nat
  | [] => 0
  | d :: r => uptoBulk d + uptoBulkAll r
def uptoBulkEntries {H : Type} : List (Lit × DataW H) → Nat
  | [] => 0
  | x :: r => uptoBulkEntry x + uptoBulkEntries r
def uptoBulkEntry {H : Type} : Lit × DataW H → Nat
  | (.string bytes, d) => bytes.length + uptoBulk d + 1
  | (_, d) => uptoBulk d + 1
 end
def uptoSmall : (H : Type) → List (DataW H) → Bool := fun _ ds => decide (uptoBulkAll ds ≤ 1048576)
def OpenSpec.upto (s : _root_.Go.ChangeSpec) : _root_.Go.OpenSpec := { _root_.Go.OpenSpec.ofChange s with cond := some uptoSmall }

/-- 'squeallaw06.RegsShows', WHERE WHAT IT READS IS OF BULK AT MOST 1048576: true; the input reads as it did. -/
def regsShowsUptoRow : OpenClaim := { program := "ytfhegloobldokaa", sum := "b177c1b602e85b0c9e25ae872fd8b94112328a5e4168b6403a2378f7236db67a", func := "squeal/squeallaw06.RegsShows", spec := "regsShows", inPlace := ["internal/abi.NoEscape", "internal/bytealg.MakeNoZero"], apart := false, narrowed := true }
def RegsShowsUptoSaid : Prop := regsShowsUptoRow.holds Try.pinned (OpenSpec.upto regsShowsSpec)

/-- 'squeallaw06.RegsPairs', WHERE WHAT IT READS IS OF BULK AT MOST 1048576: true; the input reads as it did. -/
def regsPairsUptoRow : OpenClaim := { program := "ytfhegloobldokaa", sum := "b177c1b602e85b0c9e25ae872fd8b94112328a5e4168b6403a2378f7236db67a", func := "squeal/squeallaw06.RegsPairs", spec := "regsPairs", inPlace := ["internal/abi.NoEscape", "internal/bytealg.MakeNoZero"], apart := false, narrowed := true }
def RegsPairsUptoSaid : Prop := regsPairsUptoRow.holds Try.pinned (OpenSpec.upto regsPairsSpec)

/-- 'squeallaw06.RegsBytes', WHERE WHAT IT READS IS OF BULK AT MOST 1048576: true; the input reads as it did. -/
def regsBytesUptoRow : OpenClaim := { program := "ytfhegloobldokaa", sum := "b177c1b602e85b0c9e25ae872fd8b94112328a5e4168b6403a2378f7236db67a", func := "squeal/squeallaw06.RegsBytes", spec := "regsBytes", inPlace := ["internal/abi.NoEscape", "internal/bytealg.MakeNoZero"], apart := false, narrowed := true }
def RegsBytesUptoSaid : Prop := regsBytesUptoRow.holds Try.pinned (OpenSpec.upto regsBytesSpec)

/-- 'squeallaw06.RegsBack', WHERE WHAT IT READS IS OF BULK AT MOST 1048576: true; the input reads as it did. -/
def regsBackUptoRow : OpenClaim := { program := "ytfhegloobldokaa", sum := "b177c1b602e85b0c9e25ae872fd8b94112328a5e4168b6403a2378f7236db67a", func := "squeal/squeallaw06.RegsBack", spec := "regsBack", inPlace := ["internal/abi.NoEscape", "internal/bytealg.MakeNoZero"], apart := false, narrowed := true }
def RegsBackUptoSaid : Prop := regsBackUptoRow.holds Try.pinned (OpenSpec.upto regsBackSpec)

/-- 'squeallaw06.RegsNils', WHERE WHAT IT READS IS OF BULK AT MOST 1048576: true; the input reads as it did. -/
def regsNilsUptoRow : OpenClaim := { program := "ytfhegloobldokaa", sum := "b177c1b602e85b0c9e25ae872fd8b94112328a5e4168b6403a2378f7236db67a", func := "squeal/squeallaw06.RegsNils", spec := "regsNils", inPlace := ["internal/abi.NoEscape", "internal/bytealg.MakeNoZero"], apart := false, narrowed := true }
def RegsNilsUptoSaid : Prop := regsNilsUptoRow.holds Try.pinned (OpenSpec.upto regsNilsSpec)

/-- 'squeallaw08.MicroTimes', WHERE WHAT IT READS IS OF BULK AT MOST 1048576: true; the input reads as it did. -/
def microTimesUptoRow : OpenClaim := { program := "ytfhegloobldokaa", sum := "b177c1b602e85b0c9e25ae872fd8b94112328a5e4168b6403a2378f7236db67a", func := "squeal/squeallaw08.MicroTimes", spec := "microTimes", apart := false, narrowed := true }
def MicroTimesUptoSaid : Prop := microTimesUptoRow.holds Try.pinned (OpenSpec.upto microTimesSpec)

/-- 'squeallaw08.MicroAll', WHERE WHAT IT READS IS OF BULK AT MOST 1048576: true; the input reads as it did. -/
def microAllUptoRow : OpenClaim := { program := "ytfhegloobldokaa", sum := "b177c1b602e85b0c9e25ae872fd8b94112328a5e4168b6403a2378f7236db67a", func := "squeal/squeallaw08.MicroAll", spec := "microAll", apart := false, narrowed := true }
def MicroAllUptoSaid : Prop := microAllUptoRow.holds Try.pinned (OpenSpec.upto microAllSpec)

/-- 'squeallaw08.MicroSound', WHERE WHAT IT READS IS OF BULK AT MOST 1048576: true; the input reads as it did. -/
def microSoundUptoRow : OpenClaim := { program := "ytfhegloobldokaa", sum := "b177c1b602e85b0c9e25ae872fd8b94112328a5e4168b6403a2378f7236db67a", func := "squeal/squeallaw08.MicroSound", spec := "microSound", apart := false, narrowed := true }
def MicroSoundUptoSaid : Prop := microSoundUptoRow.holds Try.pinned (OpenSpec.upto microSoundSpec)

/-- 'squeallaw08.MicroReads', WHERE WHAT IT READS IS OF BULK AT MOST 1048576: true; the input reads as it did. -/
def microReadsUptoRow : OpenClaim := { program := "ytfhegloobldokaa", sum := "b177c1b602e85b0c9e25ae872fd8b94112328a5e4168b6403a2378f7236db67a", func := "squeal/squeallaw08.MicroReads", spec := "microReads", apart := false, narrowed := true }
def MicroReadsUptoSaid : Prop := microReadsUptoRow.holds Try.pinned (OpenSpec.upto microReadsSpec)

end Rows
end Go.Proofs.Ytfhegloobldokaa
