/-
  No cell of these rows narrows 'for every input' (looked for: loops, veiled, ifaces, maps, wideKeys, modest, calm, conditions, laid).
  DERIVED. THE GIVEN ROWS OF THIS SEAT. 8 by the template 'for every input the law returns true; each argument reads behind the call as it read before'; 0 by the template 'total and deterministic' (their statements: YtoejmjhfecppcaaTotals.lean).
  GIVEN WITH THE SEED: the statements are not yours to turn. If you find one false, say at which input.
  Laid BY PROGRAM, IN A SANDBOX (cutbox-rows.mjs): the forced cells as the released guide's own fill.sh prints them over the translation 3e10ad772b7e891c… (all of the seat's roots in one cut). By AI agents, Wed Nov 11 2026. No macro, syntax, notation, axiom, sorry.
-/
import Derived.Test.YtoejmjhfecppcaaChecked
import GoSem.Claim
import GoSem.ClaimJoined
import GoSem.ClaimMapViews
import Derived.JoinedTies
import Derived.KernelRfl
namespace Go.Proofs.Ytoejmjhfecppcaa
/- THE CELL 'sum', in the pinned program and in every row, IS THE sha256 OF THE DUMP (.gsa) THAT YtoejmjhfecppcaaProg.lean LOADS. Nothing in Lean hashes anything: it is a label: what it is worth is what the hold of that sum in a sandbox is worth. -/
noncomputable def Try.pinned : Pinned := { name := "ytoejmjhfecppcaa", sum := "3e10ad772b7e891cdf27623692972d08d69551a99cfc20103f0af24a99a33035", checked := Try.checked }
namespace Rows
def none {H : Type} : Left H := { results := [], args := [] }

/-- 'squeallaw26.ReelMakes': WHATEVER THE INPUT: true; the input reads as it did. -/
def reelMakesSpec : ChangeSpec := { name := "reelMakes", fn := fun _ => fun
  | [d1, d2] => { results := [.lit (.bool true)], args := [d1, d2] }
  | _ => none }
def reelMakesRow : OpenClaim := { program := "ytoejmjhfecppcaa", sum := "3e10ad772b7e891cdf27623692972d08d69551a99cfc20103f0af24a99a33035", func := "squeal/squeallaw26.ReelMakes", spec := "reelMakes", apart := false }
def ReelMakesSaid : Prop := reelMakesRow.holds Try.pinned (OpenSpec.ofChange reelMakesSpec)

/-- ITS FALSE NEIGHBOUR: 'it returns false'. Refute it at one input. -/
def reelMakesWrong : ChangeSpec := { name := "reelMakes", fn := fun _ => fun
  | [d1, d2] => { results := [.lit (.bool false)], args := [d1, d2] }
  | _ => none }
def ReelMakesWrongFalsely : Prop := reelMakesRow.holds Try.pinned (OpenSpec.ofChange reelMakesWrong)

/-- 'squeallaw26.ReelGaps': WHATEVER THE INPUT: true; the input reads as it did. -/
def reelGapsSpec : ChangeSpec := { name := "reelGaps", fn := fun _ => fun
  | [d1, d2] => { results := [.lit (.bool true)], args := [d1, d2] }
  | _ => none }
def reelGapsRow : OpenClaim := { program := "ytoejmjhfecppcaa", sum := "3e10ad772b7e891cdf27623692972d08d69551a99cfc20103f0af24a99a33035", func := "squeal/squeallaw26.ReelGaps", spec := "reelGaps", apart := false }
def ReelGapsSaid : Prop := reelGapsRow.holds Try.pinned (OpenSpec.ofChange reelGapsSpec)

/-- ITS FALSE NEIGHBOUR: 'it returns false'. Refute it at one input. -/
def reelGapsWrong : ChangeSpec := { name := "reelGaps", fn := fun _ => fun
  | [d1, d2] => { results := [.lit (.bool false)], args := [d1, d2] }
  | _ => none }
def ReelGapsWrongFalsely : Prop := reelGapsRow.holds Try.pinned (OpenSpec.ofChange reelGapsWrong)

/-- 'squeallaw14.HuffCodes': WHATEVER THE INPUT: true; the input reads as it did. -/
def huffCodesSpec : ChangeSpec := { name := "huffCodes", fn := fun _ => fun
  | [d] => { results := [.lit (.bool true)], args := [d] }
  | _ => none }
def huffCodesRow : OpenClaim := { program := "ytoejmjhfecppcaa", sum := "3e10ad772b7e891cdf27623692972d08d69551a99cfc20103f0af24a99a33035", func := "squeal/squeallaw14.HuffCodes", spec := "huffCodes", apart := false }
def HuffCodesSaid : Prop := huffCodesRow.holds Try.pinned (OpenSpec.ofChange huffCodesSpec)

/-- ITS FALSE NEIGHBOUR: 'it returns false'. Refute it at one input. -/
def huffCodesWrong : ChangeSpec := { name := "huffCodes", fn := fun _ => fun
  | [d] => { results := [.lit (.bool false)], args := [d] }
  | _ => none }
def HuffCodesWrongFalsely : Prop := huffCodesRow.holds Try.pinned (OpenSpec.ofChange huffCodesWrong)

/-- 'squeallaw14.HuffReads': WHATEVER THE INPUT: true; the input reads as it did. -/
def huffReadsSpec : ChangeSpec := { name := "huffReads", fn := fun _ => fun
  | [d1, d2] => { results := [.lit (.bool true)], args := [d1, d2] }
  | _ => none }
def huffReadsRow : OpenClaim := { program := "ytoejmjhfecppcaa", sum := "3e10ad772b7e891cdf27623692972d08d69551a99cfc20103f0af24a99a33035", func := "squeal/squeallaw14.HuffReads", spec := "huffReads", apart := false }
def HuffReadsSaid : Prop := huffReadsRow.holds Try.pinned (OpenSpec.ofChange huffReadsSpec)

/-- ITS FALSE NEIGHBOUR: 'it returns false'. Refute it at one input. -/
def huffReadsWrong : ChangeSpec := { name := "huffReads", fn := fun _ => fun
  | [d1, d2] => { results := [.lit (.bool false)], args := [d1, d2] }
  | _ => none }
def HuffReadsWrongFalsely : Prop := huffReadsRow.holds Try.pinned (OpenSpec.ofChange huffReadsWrong)

/-- 'squeallaw14.HuffBack': WHATEVER THE INPUT: true; the input reads as it did. -/
def huffBackSpec : ChangeSpec := { name := "huffBack", fn := fun _ => fun
  | [d1, d2] => { results := [.lit (.bool true)], args := [d1, d2] }
  | _ => none }
def huffBackRow : OpenClaim := { program := "ytoejmjhfecppcaa", sum := "3e10ad772b7e891cdf27623692972d08d69551a99cfc20103f0af24a99a33035", func := "squeal/squeallaw14.HuffBack", spec := "huffBack", apart := false }
def HuffBackSaid : Prop := huffBackRow.holds Try.pinned (OpenSpec.ofChange huffBackSpec)

/-- ITS FALSE NEIGHBOUR: 'it returns false'. Refute it at one input. -/
def huffBackWrong : ChangeSpec := { name := "huffBack", fn := fun _ => fun
  | [d1, d2] => { results := [.lit (.bool false)], args := [d1, d2] }
  | _ => none }
def HuffBackWrongFalsely : Prop := huffBackRow.holds Try.pinned (OpenSpec.ofChange huffBackWrong)

/-- 'squeallaw14.HuffNils': WHATEVER THE INPUT: true; the input reads as it did. -/
def huffNilsSpec : ChangeSpec := { name := "huffNils", fn := fun _ => fun
  | [d] => { results := [.lit (.bool true)], args := [d] }
  | _ => none }
def huffNilsRow : OpenClaim := { program := "ytoejmjhfecppcaa", sum := "3e10ad772b7e891cdf27623692972d08d69551a99cfc20103f0af24a99a33035", func := "squeal/squeallaw14.HuffNils", spec := "huffNils", apart := false }
def HuffNilsSaid : Prop := huffNilsRow.holds Try.pinned (OpenSpec.ofChange huffNilsSpec)

/-- ITS FALSE NEIGHBOUR: 'it returns false'. Refute it at one input. -/
def huffNilsWrong : ChangeSpec := { name := "huffNils", fn := fun _ => fun
  | [d] => { results := [.lit (.bool false)], args := [d] }
  | _ => none }
def HuffNilsWrongFalsely : Prop := huffNilsRow.holds Try.pinned (OpenSpec.ofChange huffNilsWrong)

/-- 'squeallaw28.AsmMakes': WHATEVER THE INPUT: true; the input reads as it did. -/
def asmMakesSpec : ChangeSpec := { name := "asmMakes", fn := fun _ => fun
  | [d1, d2, d3] => { results := [.lit (.bool true)], args := [d1, d2, d3] }
  | _ => none }
def asmMakesRow : OpenClaim := { program := "ytoejmjhfecppcaa", sum := "3e10ad772b7e891cdf27623692972d08d69551a99cfc20103f0af24a99a33035", func := "squeal/squeallaw28.AsmMakes", spec := "asmMakes", apart := false }
def AsmMakesSaid : Prop := asmMakesRow.holds Try.pinned (OpenSpec.ofChange asmMakesSpec)

/-- ITS FALSE NEIGHBOUR: 'it returns false'. Refute it at one input. -/
def asmMakesWrong : ChangeSpec := { name := "asmMakes", fn := fun _ => fun
  | [d1, d2, d3] => { results := [.lit (.bool false)], args := [d1, d2, d3] }
  | _ => none }
def AsmMakesWrongFalsely : Prop := asmMakesRow.holds Try.pinned (OpenSpec.ofChange asmMakesWrong)

/-- 'squeallaw28.AsmNils': WHATEVER THE INPUT: true; the input reads as it did. -/
def asmNilsSpec : ChangeSpec := { name := "asmNils", fn := fun _ => fun
  | [d1, d2] => { results := [.lit (.bool true)], args := [d1, d2] }
  | _ => none }
def asmNilsRow : OpenClaim := { program := "ytoejmjhfecppcaa", sum := "3e10ad772b7e891cdf27623692972d08d69551a99cfc20103f0af24a99a33035", func := "squeal/squeallaw28.AsmNils", spec := "asmNils", apart := false }
def AsmNilsSaid : Prop := asmNilsRow.holds Try.pinned (OpenSpec.ofChange asmNilsSpec)

/-- ITS FALSE NEIGHBOUR: 'it returns false'. Refute it at one input. -/
def asmNilsWrong : ChangeSpec := { name := "asmNils", fn := fun _ => fun
  | [d1, d2] => { results := [.lit (.bool false)], args := [d1, d2] }
  | _ => none }
def AsmNilsWrongFalsely : Prop := asmNilsRow.holds Try.pinned (OpenSpec.ofChange asmNilsWrong)

/- THE SECOND FORM. 'bulk': how many values and letters a reading holds, each counted each time it is reached (what is shared counts as often as it is met; a slice's spare places count too). A statement '..UptoSaid' is the law's where the arguments, and the package variables that the reading takes, are together of bulk at most 1048576: NARROWER than '..Said'. Prove '..Said' where nothing that the law and all that it calls make is longer than what came in: it says more and counts as full. Else prove '..UptoSaid'. A law counts once. -/
mutual
def uptoBulk {H : Type} : DataW H → Nat
  | .lit (.string bytes) => bytes.length + 1
  | .lit _ => 1
  | .nil => 1
  | .ptr d => uptoBulk d + 1
  | .slice elems spare => uptoBulkAll elems + uptoBulkAll spare + 1
  | .agg parts => uptoBulkAll parts + 1
  | .iface _ d => uptoBulk d + 1
  | .map entries => uptoBulkEntries entries + 1
  | .held _ => 1
def uptoBulkAll {H : Type} : List (DataW H) → Nat
  | [] => 0
  | d :: r => uptoBulk d + uptoBulkAll r
def uptoBulkEntries {H : Type} : List (Lit × DataW H) → Nat
  | [] => 0
  | x :: r => uptoBulkEntry x + uptoBulkEntries r
def uptoBulkEntry {H : Type} : Lit × DataW H → Nat
  | (.string bytes, d) => bytes.length + uptoBulk d + 1
  | (_, d) => uptoBulk d + 1
 end
def uptoSmall : (H : Type) → List (DataW H) → Bool := fun _ ds => decide (uptoBulkAll ds ≤ 1048576)
def OpenSpec.upto (s : _root_.Go.ChangeSpec) : _root_.Go.OpenSpec := { _root_.Go.OpenSpec.ofChange s with cond := some uptoSmall }

/-- 'squeallaw26.ReelMakes', WHERE WHAT IT READS IS OF BULK AT MOST 1048576: true; the input reads as it did. -/
def reelMakesUptoRow : OpenClaim := { program := "ytoejmjhfecppcaa", sum := "3e10ad772b7e891cdf27623692972d08d69551a99cfc20103f0af24a99a33035", func := "squeal/squeallaw26.ReelMakes", spec := "reelMakes", apart := false, narrowed := true }
def ReelMakesUptoSaid : Prop := reelMakesUptoRow.holds Try.pinned (OpenSpec.upto reelMakesSpec)

/-- 'squeallaw26.ReelGaps', WHERE WHAT IT READS IS OF BULK AT MOST 1048576: true; the input reads as it did. -/
def reelGapsUptoRow : OpenClaim := { program := "ytoejmjhfecppcaa", sum := "3e10ad772b7e891cdf27623692972d08d69551a99cfc20103f0af24a99a33035", func := "squeal/squeallaw26.ReelGaps", spec := "reelGaps", apart := false, narrowed := true }
def ReelGapsUptoSaid : Prop := reelGapsUptoRow.holds Try.pinned (OpenSpec.upto reelGapsSpec)

/-- 'squeallaw14.HuffCodes', WHERE WHAT IT READS IS OF BULK AT MOST 1048576: true; the input reads as it did. -/
def huffCodesUptoRow : OpenClaim := { program := "ytoejmjhfecppcaa", sum := "3e10ad772b7e891cdf27623692972d08d69551a99cfc20103f0af24a99a33035", func := "squeal/squeallaw14.HuffCodes", spec := "huffCodes", apart := false, narrowed := true }
def HuffCodesUptoSaid : Prop := huffCodesUptoRow.holds Try.pinned (OpenSpec.upto huffCodesSpec)

/-- 'squeallaw14.HuffReads', WHERE WHAT IT READS IS OF BULK AT MOST 1048576: true; the input reads as it did. -/
def huffReadsUptoRow : OpenClaim := { program := "ytoejmjhfecppcaa", sum := "3e10ad772b7e891cdf27623692972d08d69551a99cfc20103f0af24a99a33035", func := "squeal/squeallaw14.HuffReads", spec := "huffReads", apart := false, narrowed := true }
def HuffReadsUptoSaid : Prop := huffReadsUptoRow.holds Try.pinned (OpenSpec.upto huffReadsSpec)

/-- 'squeallaw14.HuffBack', WHERE WHAT IT READS IS OF BULK AT MOST 1048576: true; the input reads as it did. -/
def huffBackUptoRow : OpenClaim := { program := "ytoejmjhfecppcaa", sum := "3e10ad772b7e891cdf27623692972d08d69551a99cfc20103f0af24a99a33035", func := "squeal/squeallaw14.HuffBack", spec := "huffBack", apart := false, narrowed := true }
def HuffBackUptoSaid : Prop := huffBackUptoRow.holds Try.pinned (OpenSpec.upto huffBackSpec)

/-- 'squeallaw14.HuffNils', WHERE WHAT IT READS IS OF BULK AT MOST 1048576: true; the input reads as it did. -/
def huffNilsUptoRow : OpenClaim := { program := "ytoejmjhfecppcaa", sum := "3e10ad772b7e891cdf27623692972d08d69551a99cfc20103f0af24a99a33035", func := "squeal/squeallaw14.HuffNils", spec := "huffNils", apart := false, narrowed := true }
def HuffNilsUptoSaid : Prop := huffNilsUptoRow.holds Try.pinned (OpenSpec.upto huffNilsSpec)

/-- 'squeallaw28.AsmMakes', WHERE WHAT IT READS IS OF BULK AT MOST 1048576: true; the input reads as it did. -/
def asmMakesUptoRow : OpenClaim := { program := "ytoejmjhfecppcaa", sum := "3e10ad772b7e891cdf27623692972d08d69551a99cfc20103f0af24a99a33035", func := "squeal/squeallaw28.AsmMakes", spec := "asmMakes", apart := false, narrowed := true }
def AsmMakesUptoSaid : Prop := asmMakesUptoRow.holds Try.pinned (OpenSpec.upto asmMakesSpec)

/-- 'squeallaw28.AsmNils', WHERE WHAT IT READS IS OF BULK AT MOST 1048576: true; the input reads as it did. -/
def asmNilsUptoRow : OpenClaim := { program := "ytoejmjhfecppcaa", sum := "3e10ad772b7e891cdf27623692972d08d69551a99cfc20103f0af24a99a33035", func := "squeal/squeallaw28.AsmNils", spec := "asmNils", apart := false, narrowed := true }
def AsmNilsUptoSaid : Prop := asmNilsUptoRow.holds Try.pinned (OpenSpec.upto asmNilsSpec)

end Rows
end Go.Proofs.Ytoejmjhfecppcaa
