/- The document's answer in plain words: bytes of a call. -/
import Derived.Test.YtnkjmmbhjhmgdaaAsmMP
namespace Go.Proofs.Ytnkjmmbhjhmgdaa
set_option linter.unusedSimpArgs false
set_option linter.unusedVariables false
open Go.RowKit Go.Maps Go.Sort
def toZ (s : ByteArray) : List (ByteArray × Int) → Int → Int
  | [], d => d
  | z :: Z, d => toZ s Z (if z.1 = s then z.2 else d)
def bytesL (o : OpL) (h : Int) (Z : List (ByteArray × Int)) : List Int :=
  if o.kind = 0 then o.b else if o.kind = 2 then o.b ++ [toZ o.name Z 0 % 256, toZ o.name Z 0 / 256 % 256]
  else if o.kind = 3 then [codeL o.b, (toZ o.name Z 0 - h - 2) % 256] else if o.kind = 4 then waitL o.num h else []
/-- names and their addresses, in two rows -/
structure ZsAt (w : World) (An At : Option Addr) (Z : List (ByteArray × Int)) : Prop where
  names : Cells w An (Z.map fun z => .string z.1)
  at_ : Ints w At .i64 (Z.map (·.2))
theorem ZsAt.below {w w' : World} {An At : Option Addr} {Z : List (ByteArray × Int)} (h : ZsAt w An At Z) (hb : Below w.heap.size w w') : ZsAt w' An At Z := ⟨h.names.below hb, h.at_.below hb⟩
def ZOk (Z : List (ByteArray × Int)) : Prop := ∀ z ∈ Z, 0 ≤ z.2 ∧ z.2 ≤ 65536
end Go.Proofs.Ytnkjmmbhjhmgdaa
