/-
  No cell of these rows narrows 'for every input' (looked for: loops, veiled, ifaces, maps, wideKeys, modest, calm, conditions, laid).
  DERIVED. THE GIVEN ROWS OF THIS SEAT. 5 by the template 'for every input the law returns true; each argument reads behind the call as it read before'; 0 by the template 'total and deterministic' (their statements: YtokidpajialgbaaTotals.lean).
  GIVEN WITH THE SEED: the statements are not yours to turn. If you find one false, say at which input.
  Laid BY PROGRAM, IN A SANDBOX (cutbox-rows.mjs): the forced cells as the released guide's own fill.sh prints them over the translation 4ec29465916de99e… (all of the seat's roots in one cut). By AI agents, Wed Nov 11 2026. No macro, syntax, notation, axiom, sorry.
-/
import Derived.Test.YtokidpajialgbaaChecked
import GoSem.Claim
import GoSem.ClaimJoined
import GoSem.ClaimMapViews
import Derived.JoinedTies
import Derived.KernelRfl
namespace Go.Proofs.Ytokidpajialgbaa
/- THE CELL 'sum', in the pinned program and in every row, IS THE sha256 OF THE DUMP (.gsa) THAT YtokidpajialgbaaProg.lean LOADS. Nothing in Lean hashes anything: it is a label: what it is worth is what the hold of that sum in a sandbox is worth. -/
noncomputable def Try.pinned : Pinned := { name := "ytokidpajialgbaa", sum := "4ec29465916de99efd318b4455b6a84dec87c327fc57394b5129a432772facff", checked := Try.checked }
namespace Rows
def none {H : Type} : Left H := { results := [], args := [] }

/-- 'squeallaw20.SpellMays': WHATEVER THE INPUT: true; the input reads as it did. -/
def spellMaysSpec : ChangeSpec := { name := "spellMays", fn := fun _ => fun
  | [d] => { results := [.lit (.bool true)], args := [d] }
  | _ => none }
def spellMaysRow : OpenClaim := { program := "ytokidpajialgbaa", sum := "4ec29465916de99efd318b4455b6a84dec87c327fc57394b5129a432772facff", func := "squeal/squeallaw20.SpellMays", spec := "spellMays", apart := false }
def SpellMaysSaid : Prop := spellMaysRow.holds Try.pinned (OpenSpec.ofChange spellMaysSpec)

/-- ITS FALSE NEIGHBOUR: 'it returns false'. Refute it at one input. -/
def spellMaysWrong : ChangeSpec := { name := "spellMays", fn := fun _ => fun
  | [d] => { results := [.lit (.bool false)], args := [d] }
  | _ => none }
def SpellMaysWrongFalsely : Prop := spellMaysRow.holds Try.pinned (OpenSpec.ofChange spellMaysWrong)

/-- 'squeallaw20.SpellWrites': WHATEVER THE INPUT: true; the input reads as it did. -/
def spellWritesSpec : ChangeSpec := { name := "spellWrites", fn := fun _ => fun
  | [d] => { results := [.lit (.bool true)], args := [d] }
  | _ => none }
def spellWritesRow : OpenClaim := { program := "ytokidpajialgbaa", sum := "4ec29465916de99efd318b4455b6a84dec87c327fc57394b5129a432772facff", func := "squeal/squeallaw20.SpellWrites", spec := "spellWrites", apart := false }
def SpellWritesSaid : Prop := spellWritesRow.holds Try.pinned (OpenSpec.ofChange spellWritesSpec)

/-- ITS FALSE NEIGHBOUR: 'it returns false'. Refute it at one input. -/
def spellWritesWrong : ChangeSpec := { name := "spellWrites", fn := fun _ => fun
  | [d] => { results := [.lit (.bool false)], args := [d] }
  | _ => none }
def SpellWritesWrongFalsely : Prop := spellWritesRow.holds Try.pinned (OpenSpec.ofChange spellWritesWrong)

/-- 'squeallaw20.SpellSame': WHATEVER THE INPUT: true; the input reads as it did. -/
def spellSameSpec : ChangeSpec := { name := "spellSame", fn := fun _ => fun
  | [d1, d2] => { results := [.lit (.bool true)], args := [d1, d2] }
  | _ => none }
def spellSameRow : OpenClaim := { program := "ytokidpajialgbaa", sum := "4ec29465916de99efd318b4455b6a84dec87c327fc57394b5129a432772facff", func := "squeal/squeallaw20.SpellSame", spec := "spellSame", unfollowed := true, recurses := true, apart := false }
def SpellSameSaid : Prop := spellSameRow.holds Try.pinned (OpenSpec.ofChange spellSameSpec)

/-- ITS FALSE NEIGHBOUR: 'it returns false'. Refute it at one input. -/
def spellSameWrong : ChangeSpec := { name := "spellSame", fn := fun _ => fun
  | [d1, d2] => { results := [.lit (.bool false)], args := [d1, d2] }
  | _ => none }
def SpellSameWrongFalsely : Prop := spellSameRow.holds Try.pinned (OpenSpec.ofChange spellSameWrong)

/-- 'squeallaw20.SpellReads': WHATEVER THE INPUT: true; the input reads as it did. -/
def spellReadsSpec : ChangeSpec := { name := "spellReads", fn := fun _ => fun
  | [d] => { results := [.lit (.bool true)], args := [d] }
  | _ => none }
def spellReadsRow : OpenClaim := { program := "ytokidpajialgbaa", sum := "4ec29465916de99efd318b4455b6a84dec87c327fc57394b5129a432772facff", func := "squeal/squeallaw20.SpellReads", spec := "spellReads", unfollowed := true, recurses := true, apart := false }
def SpellReadsSaid : Prop := spellReadsRow.holds Try.pinned (OpenSpec.ofChange spellReadsSpec)

/-- ITS FALSE NEIGHBOUR: 'it returns false'. Refute it at one input. -/
def spellReadsWrong : ChangeSpec := { name := "spellReads", fn := fun _ => fun
  | [d] => { results := [.lit (.bool false)], args := [d] }
  | _ => none }
def SpellReadsWrongFalsely : Prop := spellReadsRow.holds Try.pinned (OpenSpec.ofChange spellReadsWrong)

/-- 'squeallaw20.SpellBack': WHATEVER THE INPUT: true; the input reads as it did. -/
def spellBackSpec : ChangeSpec := { name := "spellBack", fn := fun _ => fun
  | [d] => { results := [.lit (.bool true)], args := [d] }
  | _ => none }
def spellBackRow : OpenClaim := { program := "ytokidpajialgbaa", sum := "4ec29465916de99efd318b4455b6a84dec87c327fc57394b5129a432772facff", func := "squeal/squeallaw20.SpellBack", spec := "spellBack", unfollowed := true, recurses := true, apart := false }
def SpellBackSaid : Prop := spellBackRow.holds Try.pinned (OpenSpec.ofChange spellBackSpec)

/-- ITS FALSE NEIGHBOUR: 'it returns false'. Refute it at one input. -/
def spellBackWrong : ChangeSpec := { name := "spellBack", fn := fun _ => fun
  | [d] => { results := [.lit (.bool false)], args := [d] }
  | _ => none }
def SpellBackWrongFalsely : Prop := spellBackRow.holds Try.pinned (OpenSpec.ofChange spellBackWrong)

/- THE SECOND FORM. 'bulk': how many values and letters a reading holds, each counted each time it is reached (what is shared counts as often as it is met; a slice's spare places count too). A statement '..UptoSaid' is the law's where the arguments, and the package variables that the reading takes, are together of bulk at most 1048576: NARROWER than '..Said'. Prove '..Said' where nothing that the law and all that it calls make is longer than what came in: it says more and counts as full. Else prove '..UptoSaid'. A law counts once. -/
mutual
def uptoBulk {H : Type} : DataW H → Nat
  | .lit (.string bytes) => bytes.length + 1
  | .lit _ => 1
  | .nil => 1
  | .ptr d => uptoBulk d + 1
  | .slice elems spare => uptoBulkAll elems + uptoBulkAll spare + 1
  | .agg parts => uptoBulkAll parts + 1
  | .iface _ d => uptoBulk d + 1
  | .map entries => uptoBulkEntries entries + 1
  | .held _ => 1
def uptoBulkAll {H : Type} : List (DataW H) → Nat
  | [] => 0
  | d :: r => uptoBulk d + uptoBulkAll r
def uptoBulkEntries {H : Type} : List (Lit × DataW H) → Nat
  | [] => 0
  | x :: r => uptoBulkEntry x + uptoBulkEntries r
def uptoBulkEntry {H : Type} : Lit × DataW H → Nat
  | (.string bytes, d) => bytes.length + uptoBulk d + 1
  | (_, d) => uptoBulk d + 1
 end
def uptoSmall : (H : Type) → List (DataW H) → Bool := fun _ ds => decide (uptoBulkAll ds ≤ 1048576)
def OpenSpec.upto (s : _root_.Go.ChangeSpec) : _root_.Go.OpenSpec := { _root_.Go.OpenSpec.ofChange s with cond := some uptoSmall }

/-- 'squeallaw20.SpellMays', WHERE WHAT IT READS IS OF BULK AT MOST 1048576: true; the input reads as it did. -/
def spellMaysUptoRow : OpenClaim := { program := "ytokidpajialgbaa", sum := "4ec29465916de99efd318b4455b6a84dec87c327fc57394b5129a432772facff", func := "squeal/squeallaw20.SpellMays", spec := "spellMays", apart := false, narrowed := true }
def SpellMaysUptoSaid : Prop := spellMaysUptoRow.holds Try.pinned (OpenSpec.upto spellMaysSpec)

/-- 'squeallaw20.SpellWrites', WHERE WHAT IT READS IS OF BULK AT MOST 1048576: true; the input reads as it did. -/
def spellWritesUptoRow : OpenClaim := { program := "ytokidpajialgbaa", sum := "4ec29465916de99efd318b4455b6a84dec87c327fc57394b5129a432772facff", func := "squeal/squeallaw20.SpellWrites", spec := "spellWrites", apart := false, narrowed := true }
def SpellWritesUptoSaid : Prop := spellWritesUptoRow.holds Try.pinned (OpenSpec.upto spellWritesSpec)

/-- 'squeallaw20.SpellSame', WHERE WHAT IT READS IS OF BULK AT MOST 1048576: true; the input reads as it did. -/
def spellSameUptoRow : OpenClaim := { program := "ytokidpajialgbaa", sum := "4ec29465916de99efd318b4455b6a84dec87c327fc57394b5129a432772facff", func := "squeal/squeallaw20.SpellSame", spec := "spellSame", unfollowed := true, recurses := true, apart := false, narrowed := true }
def SpellSameUptoSaid : Prop := spellSameUptoRow.holds Try.pinned (OpenSpec.upto spellSameSpec)

/-- 'squeallaw20.SpellReads', WHERE WHAT IT READS IS OF BULK AT MOST 1048576: true; the input reads as it did. -/
def spellReadsUptoRow : OpenClaim := { program := "ytokidpajialgbaa", sum := "4ec29465916de99efd318b4455b6a84dec87c327fc57394b5129a432772facff", func := "squeal/squeallaw20.SpellReads", spec := "spellReads", unfollowed := true, recurses := true, apart := false, narrowed := true }
def SpellReadsUptoSaid : Prop := spellReadsUptoRow.holds Try.pinned (OpenSpec.upto spellReadsSpec)

/-- 'squeallaw20.SpellBack', WHERE WHAT IT READS IS OF BULK AT MOST 1048576: true; the input reads as it did. -/
def spellBackUptoRow : OpenClaim := { program := "ytokidpajialgbaa", sum := "4ec29465916de99efd318b4455b6a84dec87c327fc57394b5129a432772facff", func := "squeal/squeallaw20.SpellBack", spec := "spellBack", unfollowed := true, recurses := true, apart := false, narrowed := true }
def SpellBackUptoSaid : Prop := spellBackUptoRow.holds Try.pinned (OpenSpec.upto spellBackSpec)

end Rows
end Go.Proofs.Ytokidpajialgbaa
