/- The document's answer in plain words: waiting. -/
import Derived.Test.YtnkjmmbhjhmgdaaAsmIP
namespace Go.Proofs.Ytnkjmmbhjhmgdaa
set_option linter.unusedSimpArgs false
set_option linter.unusedVariables false
open Go.RowKit Go.Maps Go.Sort
def tailL (m x : Int) : List Int :=
  if m % 4 = 1 then nextL x ++ ([6, 0] ++ zerosL ((m - 17) / 4))
  else if m % 4 = 2 then nextL x ++ zerosL ((m - 10) / 4)
  else if m % 4 = 3 then [6, 0] ++ zerosL ((m - 7) / 4)
  else zerosL (m / 4)
def headL (n : Int) : List Int := (rounds (n.toNat + 1) n).1.flatten
def waitL (n x : Int) : List Int := headL n ++ tailL (rounds (n.toNat + 1) n).2 (x + (headL n).length)
theorem zeros_step {z : Int} (h : 4 ≤ z) : zerosL (z / 4) = 0 :: zerosL ((z - 4) / 4) := by
  unfold zerosL
  have e : (z / 4).toNat = ((z - 4) / 4).toNat + 1 := by omega
  rw [e, List.replicate_succ]
end Go.Proofs.Ytnkjmmbhjhmgdaa
