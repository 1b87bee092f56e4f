/- Calls on a program that is put together, in plain words. -/
import Derived.Test.YtnkjmmbhjhmgdaaAsmH
namespace Go.Proofs.Ytnkjmmbhjhmgdaa
set_option linter.unusedSimpArgs false
set_option linter.unusedVariables false
open Go.RowKit Go.Maps Go.Sort
structure OpL where
  kind : Int
  num : Int
  name : ByteArray
  b : List Int
def codeL (b : List Int) : Int := b.headD 0
structure OpOk (o : OpL) : Prop where
  num0 : -9223372036854775808 ≤ o.num
  num1 : o.num ≤ 9223372036854775807
  name : o.name.size ≤ maxLen
  byte : ∀ x ∈ o.b, 0 ≤ x ∧ x ≤ 255
theorem code_byte {o : OpL} (h : OpOk o) : ∀ x ∈ [codeL o.b], 0 ≤ x ∧ x ≤ 255 := fun x hx => by
  simp at hx
  subst hx
  unfold codeL
  cases hb : o.b with
  | nil => simp
  | cons y l => exact h.byte y (by rw [hb]; simp)
def callF (d : AsmD) (o : OpL) : AsmD :=
  if o.kind = 0 then bytesF d o.b else if o.kind = 1 then markF d o.name else if o.kind = 2 then fillF d o.name false o.b
  else if o.kind = 3 then fillF d o.name true [codeL o.b] else if o.kind = 4 then delayF d o.num else d
theorem AsmI.callF {d : AsmD} {T : Nat} (h : AsmI d T) {o : OpL} (ho : OpOk o) : AsmI (callF d o) (T + 1) := by
  unfold Go.Proofs.Ytnkjmmbhjhmgdaa.callF
  split
  · exact (h.bytesF ho.byte).mono (Nat.le_succ _)
  · split
    · exact (h.markF _).mono (Nat.le_succ _)
    · split
      · exact h.fillF _ ho.name _ ho.byte
      · split
        · exact h.fillF _ ho.name _ (code_byte ho)
        · split
          · exact (h.delayF _).mono (Nat.le_succ _)
          · exact h.mono (Nat.le_succ _)
theorem callF_bad {d : AsmD} (h : d.e ≠ 0) (o : OpL) : callF d o = d := by
  unfold callF bytesF markF fillF delayF
  simp [h]
end Go.Proofs.Ytnkjmmbhjhmgdaa
