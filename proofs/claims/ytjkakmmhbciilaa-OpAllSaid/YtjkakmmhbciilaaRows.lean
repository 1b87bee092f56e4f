/-
  No cell of these rows narrows 'for every input' (looked for: loops, veiled, ifaces, maps, wideKeys, modest, calm, conditions, laid).
  DERIVED. THE GIVEN ROWS OF THIS SEAT. 5 by the template 'for every input the law returns true; each argument reads behind the call as it read before'; 0 by the template 'total and deterministic' (their statements: YtjkakmmhbciilaaTotals.lean).
  GIVEN WITH THE SEED: the statements are not yours to turn. If you find one false, say at which input.
  Laid BY PROGRAM, IN A SANDBOX (cutbox-rows.mjs): the forced cells as the released guide's own fill.sh prints them over the translation 1b119c2d1bd5a2aa… (all of the seat's roots in one cut). By AI agents, Wed Nov 11 2026. No macro, syntax, notation, axiom, sorry.
-/
import Derived.Test.YtjkakmmhbciilaaChecked
import GoSem.Claim
import GoSem.ClaimJoined
import GoSem.ClaimMapViews
import Derived.JoinedTies
import Derived.KernelRfl
namespace Go.Proofs.Ytjkakmmhbciilaa
/- THE CELL 'sum', in the pinned program and in every row, IS THE sha256 OF THE DUMP (.gsa) THAT YtjkakmmhbciilaaProg.lean LOADS. Nothing in Lean hashes anything: it is a label: what it is worth is what the hold of that sum in a sandbox is worth. -/
noncomputable def Try.pinned : Pinned := { name := "ytjkakmmhbciilaa", sum := "1b119c2d1bd5a2aa50fdd80b8b112805a80f38209a891aa4bf0f6a50f785a349", checked := Try.checked }
namespace Rows
def none {H : Type} : Left H := { results := [], args := [] }

/-- 'squeallaw07.OpReads': WHATEVER THE INPUT: true; the input reads as it did. -/
def opReadsSpec : ChangeSpec := { name := "opReads", fn := fun _ => fun
  | [d] => { results := [.lit (.bool true)], args := [d] }
  | _ => none }
def opReadsRow : OpenClaim := { program := "ytjkakmmhbciilaa", sum := "1b119c2d1bd5a2aa50fdd80b8b112805a80f38209a891aa4bf0f6a50f785a349", func := "squeal/squeallaw07.OpReads", spec := "opReads", apart := false }
def OpReadsSaid : Prop := opReadsRow.holds Try.pinned (OpenSpec.ofChange opReadsSpec)

/-- ITS FALSE NEIGHBOUR: 'it returns false'. Refute it at one input. -/
def opReadsWrong : ChangeSpec := { name := "opReads", fn := fun _ => fun
  | [d] => { results := [.lit (.bool false)], args := [d] }
  | _ => none }
def OpReadsWrongFalsely : Prop := opReadsRow.holds Try.pinned (OpenSpec.ofChange opReadsWrong)

/-- 'squeallaw07.OpShows': WHATEVER THE INPUT: true; the input reads as it did. -/
def opShowsSpec : ChangeSpec := { name := "opShows", fn := fun _ => fun
  | [d1, d2] => { results := [.lit (.bool true)], args := [d1, d2] }
  | _ => none }
def opShowsRow : OpenClaim := { program := "ytjkakmmhbciilaa", sum := "1b119c2d1bd5a2aa50fdd80b8b112805a80f38209a891aa4bf0f6a50f785a349", func := "squeal/squeallaw07.OpShows", spec := "opShows", apart := false }
def OpShowsSaid : Prop := opShowsRow.holds Try.pinned (OpenSpec.ofChange opShowsSpec)

/-- ITS FALSE NEIGHBOUR: 'it returns false'. Refute it at one input. -/
def opShowsWrong : ChangeSpec := { name := "opShows", fn := fun _ => fun
  | [d1, d2] => { results := [.lit (.bool false)], args := [d1, d2] }
  | _ => none }
def OpShowsWrongFalsely : Prop := opShowsRow.holds Try.pinned (OpenSpec.ofChange opShowsWrong)

/-- 'squeallaw07.OpCodes': WHATEVER THE INPUT: true; the input reads as it did. -/
def opCodesSpec : ChangeSpec := { name := "opCodes", fn := fun _ => fun
  | [d] => { results := [.lit (.bool true)], args := [d] }
  | _ => none }
def opCodesRow : OpenClaim := { program := "ytjkakmmhbciilaa", sum := "1b119c2d1bd5a2aa50fdd80b8b112805a80f38209a891aa4bf0f6a50f785a349", func := "squeal/squeallaw07.OpCodes", spec := "opCodes", apart := false }
def OpCodesSaid : Prop := opCodesRow.holds Try.pinned (OpenSpec.ofChange opCodesSpec)

/-- ITS FALSE NEIGHBOUR: 'it returns false'. Refute it at one input. -/
def opCodesWrong : ChangeSpec := { name := "opCodes", fn := fun _ => fun
  | [d] => { results := [.lit (.bool false)], args := [d] }
  | _ => none }
def OpCodesWrongFalsely : Prop := opCodesRow.holds Try.pinned (OpenSpec.ofChange opCodesWrong)

/-- 'squeallaw07.OpAll': WHATEVER THE INPUT: true; the input reads as it did. -/
def opAllSpec : ChangeSpec := { name := "opAll", fn := fun _ => fun
  | [d1, d2, d3] => { results := [.lit (.bool true)], args := [d1, d2, d3] }
  | _ => none }
def opAllRow : OpenClaim := { program := "ytjkakmmhbciilaa", sum := "1b119c2d1bd5a2aa50fdd80b8b112805a80f38209a891aa4bf0f6a50f785a349", func := "squeal/squeallaw07.OpAll", spec := "opAll", apart := false }
def OpAllSaid : Prop := opAllRow.holds Try.pinned (OpenSpec.ofChange opAllSpec)

/-- ITS FALSE NEIGHBOUR: 'it returns false'. Refute it at one input. -/
def opAllWrong : ChangeSpec := { name := "opAll", fn := fun _ => fun
  | [d1, d2, d3] => { results := [.lit (.bool false)], args := [d1, d2, d3] }
  | _ => none }
def OpAllWrongFalsely : Prop := opAllRow.holds Try.pinned (OpenSpec.ofChange opAllWrong)

/-- 'squeallaw07.OpAlone': WHATEVER THE INPUT: true; the input reads as it did. -/
def opAloneSpec : ChangeSpec := { name := "opAlone", fn := fun _ => fun
  | [d1, d2] => { results := [.lit (.bool true)], args := [d1, d2] }
  | _ => none }
def opAloneRow : OpenClaim := { program := "ytjkakmmhbciilaa", sum := "1b119c2d1bd5a2aa50fdd80b8b112805a80f38209a891aa4bf0f6a50f785a349", func := "squeal/squeallaw07.OpAlone", spec := "opAlone", apart := false }
def OpAloneSaid : Prop := opAloneRow.holds Try.pinned (OpenSpec.ofChange opAloneSpec)

/-- ITS FALSE NEIGHBOUR: 'it returns false'. Refute it at one input. -/
def opAloneWrong : ChangeSpec := { name := "opAlone", fn := fun _ => fun
  | [d1, d2] => { results := [.lit (.bool false)], args := [d1, d2] }
  | _ => none }
def OpAloneWrongFalsely : Prop := opAloneRow.holds Try.pinned (OpenSpec.ofChange opAloneWrong)

/- THE SECOND FORM. 'bulk': how many values and letters a reading holds, each counted each time it is reached (what is shared counts as often as it is met; a slice's spare places count too). A statement '..UptoSaid' is the law's where the arguments, and the package variables that the reading takes, are together of bulk at most 1048576: NARROWER than '..Said'. Prove '..Said' where nothing that the law and all that it calls make is longer than what came in: it says more and counts as full. Else prove '..UptoSaid'. A law counts once. -/
mutual
def uptoBulk {H : Type} : DataW H → Nat
  | .lit (.string bytes) => bytes.length + 1
  | .lit _ => 1
  | .nil => 1
  | .ptr d => uptoBulk d + 1
  | .slice elems spare => uptoBulkAll elems + uptoBulkAll spare + 1
  | .agg parts => uptoBulkAll parts + 1
  | .iface _ d => uptoBulk d + 1
  | .map entries => uptoBulkEntries entries + 1
  | .held _ => 1
def uptoBulkAll {H : Type} : List (DataW H) → Nat
  | [] => 0
  | d :: r => uptoBulk d + uptoBulkAll r
def uptoBulkEntries {H : Type} : List (Lit × DataW H) → Nat
  | [] => 0
  | x :: r => uptoBulkEntry x + uptoBulkEntries r
def uptoBulkEntry {H : Type} : Lit × DataW H → Nat
  | (.string bytes, d) => bytes.length + uptoBulk d + 1
  | (_, d) => uptoBulk d + 1
 end
def uptoSmall : (H : Type) → List (DataW H) → Bool := fun _ ds => decide (uptoBulkAll ds ≤ 1048576)
def OpenSpec.upto (s : _root_.Go.ChangeSpec) : _root_.Go.OpenSpec := { _root_.Go.OpenSpec.ofChange s with cond := some uptoSmall }

/-- 'squeallaw07.OpReads', WHERE WHAT IT READS IS OF BULK AT MOST 1048576: true; the input reads as it did. -/
def opReadsUptoRow : OpenClaim := { program := "ytjkakmmhbciilaa", sum := "1b119c2d1bd5a2aa50fdd80b8b112805a80f38209a891aa4bf0f6a50f785a349", func := "squeal/squeallaw07.OpReads", spec := "opReads", apart := false, narrowed := true }
def OpReadsUptoSaid : Prop := opReadsUptoRow.holds Try.pinned (OpenSpec.upto opReadsSpec)

/-- 'squeallaw07.OpShows', WHERE WHAT IT READS IS OF BULK AT MOST 1048576: true; the input reads as it did. -/
def opShowsUptoRow : OpenClaim := { program := "ytjkakmmhbciilaa", sum := "1b119c2d1bd5a2aa50fdd80b8b112805a80f38209a891aa4bf0f6a50f785a349", func := "squeal/squeallaw07.OpShows", spec := "opShows", apart := false, narrowed := true }
def OpShowsUptoSaid : Prop := opShowsUptoRow.holds Try.pinned (OpenSpec.upto opShowsSpec)

/-- 'squeallaw07.OpCodes', WHERE WHAT IT READS IS OF BULK AT MOST 1048576: true; the input reads as it did. -/
def opCodesUptoRow : OpenClaim := { program := "ytjkakmmhbciilaa", sum := "1b119c2d1bd5a2aa50fdd80b8b112805a80f38209a891aa4bf0f6a50f785a349", func := "squeal/squeallaw07.OpCodes", spec := "opCodes", apart := false, narrowed := true }
def OpCodesUptoSaid : Prop := opCodesUptoRow.holds Try.pinned (OpenSpec.upto opCodesSpec)

/-- 'squeallaw07.OpAll', WHERE WHAT IT READS IS OF BULK AT MOST 1048576: true; the input reads as it did. -/
def opAllUptoRow : OpenClaim := { program := "ytjkakmmhbciilaa", sum := "1b119c2d1bd5a2aa50fdd80b8b112805a80f38209a891aa4bf0f6a50f785a349", func := "squeal/squeallaw07.OpAll", spec := "opAll", apart := false, narrowed := true }
def OpAllUptoSaid : Prop := opAllUptoRow.holds Try.pinned (OpenSpec.upto opAllSpec)

/-- 'squeallaw07.OpAlone', WHERE WHAT IT READS IS OF BULK AT MOST 1048576: true; the input reads as it did. -/
def opAloneUptoRow : OpenClaim := { program := "ytjkakmmhbciilaa", sum := "1b119c2d1bd5a2aa50fdd80b8b112805a80f38209a891aa4bf0f6a50f785a349", func := "squeal/squeallaw07.OpAlone", spec := "opAlone", apart := false, narrowed := true }
def OpAloneUptoSaid : Prop := opAloneUptoRow.holds Try.pinned (OpenSpec.upto opAloneSpec)

end Rows
end Go.Proofs.Ytjkakmmhbciilaa
