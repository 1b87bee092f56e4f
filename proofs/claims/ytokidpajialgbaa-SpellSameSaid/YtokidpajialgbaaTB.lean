/- A block of a tape, as plain data. -/
import Derived.Test.YtokidpajialgbaaMem
namespace Go.Proofs.Ytokidpajialgbaa
set_option linter.unusedSimpArgs false
set_option linter.unusedVariables false
open Go.RowKit
/-- a block of a tape -/
structure TB where
  id : Int := 0
  pause : Int := 0
  pilot : Int := 0
  sync1 : Int := 0
  sync2 : Int := 0
  zero : Int := 0
  one : Int := 0
  tone : Int := 0
  count : Int := 0
  used : Int := 0
  rate : Int := 0
  pack : Int := 0
  data : List Int := []
  times : List Int := []
  items : List (Int × List Int) := []
  pilots : List (Int × List Int) := []
  syms : List (Int × List Int) := []
  reps : List (Int × Int) := []
/-- its cells, over its six slices -/
def TB.cells (B : TB) (d t i p s r : Value) : List Value := [.int .i64 B.id, .int .i64 B.pause, .int .i64 B.pilot, .int .i64 B.sync1, .int .i64 B.sync2, .int .i64 B.zero, .int .i64 B.one, .int .i64 B.tone, .int .i64 B.count, .int .i64 B.used, .int .i64 B.rate, .int .i64 B.pack, d, t, i, p, s, r]
end Go.Proofs.Ytokidpajialgbaa
