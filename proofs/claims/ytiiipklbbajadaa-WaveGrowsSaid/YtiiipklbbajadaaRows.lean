/-
  No cell of these rows narrows 'for every input' (looked for: loops, veiled, ifaces, maps, wideKeys, modest, calm, conditions, laid).
  DERIVED. THE GIVEN ROWS OF THIS SEAT. 3 by the template 'for every input the law returns true; each argument reads behind the call as it read before'; 0 by the template 'total and deterministic' (their statements: YtiiipklbbajadaaTotals.lean).
  GIVEN WITH THE SEED: the statements are not yours to turn. If you find one false, say at which input.
  Laid BY PROGRAM, IN A SANDBOX (cutbox-rows.mjs): the forced cells as the released guide's own fill.sh prints them over the translation a3ae20b8a7e66778… (all of the seat's roots in one cut). By AI agents, Wed Nov 11 2026. No macro, syntax, notation, axiom, sorry.
-/
import Derived.Test.YtiiipklbbajadaaChecked
import GoSem.Claim
import GoSem.ClaimJoined
import GoSem.ClaimMapViews
import Derived.JoinedTies
import Derived.KernelRfl
namespace Go.Proofs.Ytiiipklbbajadaa
/- THE CELL 'sum', in the pinned program and in every row, IS THE sha256 OF THE DUMP (.gsa) THAT YtiiipklbbajadaaProg.lean LOADS. Nothing in Lean hashes anything: it is a label: what it is worth is what the hold of that sum in a sandbox is worth. -/
noncomputable def Try.pinned : Pinned := { name := "ytiiipklbbajadaa", sum := "a3ae20b8a7e667785ccaef0ff3a9a493b2ab17550f97684731aefd3ba942ca81", checked := Try.checked }
namespace Rows
def none {H : Type} : Left H := { results := [], args := [] }

/-- 'squeallaw23.WaveGrows': WHATEVER THE INPUT: true; the input reads as it did. -/
def waveGrowsSpec : ChangeSpec := { name := "waveGrows", fn := fun _ => fun
  | [d1, d2, d3] => { results := [.lit (.bool true)], args := [d1, d2, d3] }
  | _ => none }
def waveGrowsRow : OpenClaim := { program := "ytiiipklbbajadaa", sum := "a3ae20b8a7e667785ccaef0ff3a9a493b2ab17550f97684731aefd3ba942ca81", func := "squeal/squeallaw23.WaveGrows", spec := "waveGrows", unfollowed := true, recurses := true, apart := false }
def WaveGrowsSaid : Prop := waveGrowsRow.holds Try.pinned (OpenSpec.ofChange waveGrowsSpec)

/-- ITS FALSE NEIGHBOUR: 'it returns false'. Refute it at one input. -/
def waveGrowsWrong : ChangeSpec := { name := "waveGrows", fn := fun _ => fun
  | [d1, d2, d3] => { results := [.lit (.bool false)], args := [d1, d2, d3] }
  | _ => none }
def WaveGrowsWrongFalsely : Prop := waveGrowsRow.holds Try.pinned (OpenSpec.ofChange waveGrowsWrong)

/-- 'squeallaw23.WaveUsual': WHATEVER THE INPUT: true; the input reads as it did. -/
def waveUsualSpec : ChangeSpec := { name := "waveUsual", fn := fun _ => fun
  | [d1, d2, d3] => { results := [.lit (.bool true)], args := [d1, d2, d3] }
  | _ => none }
def waveUsualRow : OpenClaim := { program := "ytiiipklbbajadaa", sum := "a3ae20b8a7e667785ccaef0ff3a9a493b2ab17550f97684731aefd3ba942ca81", func := "squeal/squeallaw23.WaveUsual", spec := "waveUsual", unfollowed := true, recurses := true, apart := false }
def WaveUsualSaid : Prop := waveUsualRow.holds Try.pinned (OpenSpec.ofChange waveUsualSpec)

/-- ITS FALSE NEIGHBOUR: 'it returns false'. Refute it at one input. -/
def waveUsualWrong : ChangeSpec := { name := "waveUsual", fn := fun _ => fun
  | [d1, d2, d3] => { results := [.lit (.bool false)], args := [d1, d2, d3] }
  | _ => none }
def WaveUsualWrongFalsely : Prop := waveUsualRow.holds Try.pinned (OpenSpec.ofChange waveUsualWrong)

/-- 'squeallaw23.WaveFar': WHATEVER THE INPUT: true; the input reads as it did. -/
def waveFarSpec : ChangeSpec := { name := "waveFar", fn := fun _ => fun
  | [d1, d2] => { results := [.lit (.bool true)], args := [d1, d2] }
  | _ => none }
def waveFarRow : OpenClaim := { program := "ytiiipklbbajadaa", sum := "a3ae20b8a7e667785ccaef0ff3a9a493b2ab17550f97684731aefd3ba942ca81", func := "squeal/squeallaw23.WaveFar", spec := "waveFar", unfollowed := true, recurses := true, apart := false }
def WaveFarSaid : Prop := waveFarRow.holds Try.pinned (OpenSpec.ofChange waveFarSpec)

/-- ITS FALSE NEIGHBOUR: 'it returns false'. Refute it at one input. -/
def waveFarWrong : ChangeSpec := { name := "waveFar", fn := fun _ => fun
  | [d1, d2] => { results := [.lit (.bool false)], args := [d1, d2] }
  | _ => none }
def WaveFarWrongFalsely : Prop := waveFarRow.holds Try.pinned (OpenSpec.ofChange waveFarWrong)

/- THE SECOND FORM. 'bulk': how many values and letters a reading holds, each counted each time it is reached (what is shared counts as often as it is met; a slice's spare places count too). A statement '..UptoSaid' is the law's where the arguments, and the package variables that the reading takes, are together of bulk at most 1048576: NARROWER than '..Said'. Prove '..Said' where nothing that the law and all that it calls make is longer than what came in: it says more and counts as full. Else prove '..UptoSaid'. A law counts once. -/
mutual
def uptoBulk {H : Type} : DataW H → Nat
  | .lit (.string bytes) => bytes.length + 1
  | .lit _ => 1
  | .nil => 1
  | .ptr d => uptoBulk d + 1
  | .slice elems spare => uptoBulkAll elems + uptoBulkAll spare + 1
  | .agg parts => uptoBulkAll parts + 1
  | .iface _ d => uptoBulk d + 1
  | .map entries => uptoBulkEntries entries + 1
  | .held _ => 1
def uptoBulkAll {H : Type} : List (DataW H) → Nat
  | [] => 0
  | d :: r => uptoBulk d + uptoBulkAll r
def uptoBulkEntries {H : Type} : List (Lit × DataW H) → Nat
  | [] => 0
  | x :: r => uptoBulkEntry x + uptoBulkEntries r
def uptoBulkEntry {H : Type} : Lit × DataW H → Nat
  | (.string bytes, d) => bytes.length + uptoBulk d + 1
  | (_, d) => uptoBulk d + 1
 end
def uptoSmall : (H : Type) → List (DataW H) → Bool := fun _ ds => decide (uptoBulkAll ds ≤ 1048576)
def OpenSpec.upto (s : _root_.Go.ChangeSpec) : _root_.Go.OpenSpec := { _root_.Go.OpenSpec.ofChange s with cond := some uptoSmall }

/-- 'squeallaw23.WaveGrows', WHERE WHAT IT READS IS OF BULK AT MOST 1048576: true; the input reads as it did. -/
def waveGrowsUptoRow : OpenClaim := { program := "ytiiipklbbajadaa", sum := "a3ae20b8a7e667785ccaef0ff3a9a493b2ab17550f97684731aefd3ba942ca81", func := "squeal/squeallaw23.WaveGrows", spec := "waveGrows", unfollowed := true, recurses := true, apart := false, narrowed := true }
def WaveGrowsUptoSaid : Prop := waveGrowsUptoRow.holds Try.pinned (OpenSpec.upto waveGrowsSpec)

/-- 'squeallaw23.WaveUsual', WHERE WHAT IT READS IS OF BULK AT MOST 1048576: true; the input reads as it did. -/
def waveUsualUptoRow : OpenClaim := { program := "ytiiipklbbajadaa", sum := "a3ae20b8a7e667785ccaef0ff3a9a493b2ab17550f97684731aefd3ba942ca81", func := "squeal/squeallaw23.WaveUsual", spec := "waveUsual", unfollowed := true, recurses := true, apart := false, narrowed := true }
def WaveUsualUptoSaid : Prop := waveUsualUptoRow.holds Try.pinned (OpenSpec.upto waveUsualSpec)

/-- 'squeallaw23.WaveFar', WHERE WHAT IT READS IS OF BULK AT MOST 1048576: true; the input reads as it did. -/
def waveFarUptoRow : OpenClaim := { program := "ytiiipklbbajadaa", sum := "a3ae20b8a7e667785ccaef0ff3a9a493b2ab17550f97684731aefd3ba942ca81", func := "squeal/squeallaw23.WaveFar", spec := "waveFar", unfollowed := true, recurses := true, apart := false, narrowed := true }
def WaveFarUptoSaid : Prop := waveFarUptoRow.holds Try.pinned (OpenSpec.upto waveFarSpec)

end Rows
end Go.Proofs.Ytiiipklbbajadaa
