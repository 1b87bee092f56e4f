/- The document's answer in plain words: Run. -/
import Derived.Test.YtnkjmmbhjhmgdaaAsmNP
namespace Go.Proofs.Ytnkjmmbhjhmgdaa
set_option linter.unusedSimpArgs false
set_option linter.unusedVariables false
open Go.RowKit Go.Maps Go.Sort
def memZ (s : ByteArray) (Z : List (ByteArray × Int)) : Bool := Z.any fun z => decide (z.1 = s)
def run1 : List OpL → List (ByteArray × Int) → Int → List (ByteArray × Int) × Int × Int
  | [], Z, h => (Z, h, 0)
  | o :: L, Z, h =>
    if o.kind = 4 ∧ mayB o.num = false then (Z, h, 5) else if o.kind = 1 ∧ memZ o.name Z = true then (Z, h, 4) else
    if 65536 < h + (bytesL o h []).length then (if o.kind = 1 then Z ++ [(o.name, h)] else Z, h, 8)
    else run1 L (if o.kind = 1 then Z ++ [(o.name, h)] else Z) (h + (bytesL o h []).length)
def run2 (org : Int) (Z : List (ByteArray × Int)) : List OpL → List Int → Int × List Int
  | [], out => (0, out)
  | o :: L, out =>
    if (o.kind = 2 ∨ o.kind = 3) ∧ memZ o.name Z = false then (10, [])
    else if o.kind = 3 ∧ (toZ o.name Z 0 - (org + out.length + 2) < -128 ∨ 127 < toZ o.name Z 0 - (org + out.length + 2)) then (5, [])
    else run2 org Z L (out ++ bytesL o (org + out.length) Z)
def runF (org : Int) (L : List OpL) : List (ByteArray × Int) × Int × List Int × Int :=
  if (run1 L [] org).2.2 ≠ 0 then ((run1 L [] org).1, (run1 L [] org).2.1, [], (run1 L [] org).2.2)
  else ((run1 L [] org).1, (run1 L [] org).2.1, (run2 org (run1 L [] org).1 L []).2, (run2 org (run1 L [] org).1 L []).1)
def RunR (org : Int) (L : List OpL) (w : World) (e : Ending) (w' : World) : Prop :=
  ∃ (An At Ao : Option Addr) (nz cn ct no co : Nat) (told : Bool), e = .returned (.tuple #[.slice An nz cn, .slice At nz ct, .int .i64 (runF org L).2.1, .slice Ao no co, .int .i64 (runF org L).2.2.2, .bool told]) ∧
    ZsAt w' An At (runF org L).1 ∧ (runF org L).1.length = nz ∧ Ints w' Ao .u8 (runF org L).2.2.1 ∧ (runF org L).2.2.1.length = no ∧ (Ao = none → no = 0 ∧ co = 0) ∧ Below w.heap.size w w'
/-- how many bytes a call has -/
def lenO (o : OpL) : Nat := (bytesL o 0 []).length
theorem tailL_len (m x y : Int) : (tailL m x).length = (tailL m y).length := by
  unfold tailL nextL
  split
  · simp
  · split
    · simp
    · split <;> simp
theorem bytesL_len (o : OpL) (h : Int) (Z : List (ByteArray × Int)) : (bytesL o h Z).length = lenO o := by
  unfold lenO bytesL
  split
  · rfl
  · split
    · simp
    · split
      · simp
      · split
        · unfold waitL
          rw [List.length_append, List.length_append, tailL_len]
        · rfl
theorem rounds_le : ∀ (f : Nat) (n : Int), (rounds f n).1.flatten.length ≤ 4 * n.toNat ∧ (rounds f n).2 ≤ max n 0 + 0 ∨ n < 0
  | 0, n => by
    rcases Int.lt_or_le n 0 with h | h
    · exact .inr h
    · left; simp [rounds]; omega
  | f + 1, n => by
    rcases Int.lt_or_le n 0 with h | h
    · exact .inr h
    · left
      by_cases h29 : n < 29
      · rw [rounds_end h29]; simp; omega
      · rw [rounds_step h29]
        have hk : 1 ≤ roundK n ∧ 13 * roundK n ≤ n - 16 := by unfold roundK; omega
        rcases rounds_le f (n - (13 * roundK n + 2)) with ⟨h1, h2⟩ | h1
        · simp only [List.flatten_cons, List.length_append]
          refine ⟨?_, by omega⟩
          have : (roundB n).length = 4 := rfl
          omega
        · omega
theorem lenO_le {o : OpL} (hb : o.b.length ≤ 100000) (hm : o.kind = 4 → MayN o.num) : lenO o ≤ 6000000 := by
  unfold lenO bytesL
  split
  · omega
  · split
    · simp; omega
    · split
      · simp
      · split
        · rename_i h4
          have hM := hm h4
          have hn : 0 ≤ o.num ∧ o.num ≤ 1000000 := by unfold MayN at hM; omega
          obtain ⟨n0, n1⟩ := hn
          rcases rounds_le (o.num.toNat + 1) o.num with ⟨h1, h2⟩ | h1
          · have ht : (tailL (rounds (o.num.toNat + 1) o.num).2 (0 + (headL o.num).length)).length ≤ 5 + (rounds (o.num.toNat + 1) o.num).2.toNat := by
              unfold tailL nextL zerosL
              split
              · simp; omega
              · split
                · simp; omega
                · split
                  · simp; omega
                  · simp; omega
            unfold waitL
            rw [List.length_append]
            have : (headL o.num).length ≤ 4 * o.num.toNat := h1
            omega
          · omega
        · simp
def sumL (L : List OpL) : Nat := (L.map lenO).sum
theorem run1_sum : ∀ (L : List OpL) (Z : List (ByteArray × Int)) (h : Int), h ≤ 65536 → (run1 L Z h).2.2 = 0 → (run1 L Z h).2.1 = h + sumL L ∧ (run1 L Z h).2.1 ≤ 65536
  | [], Z, h, hh, _ => by simp [run1, sumL]; exact hh
  | o :: L, Z, h, hh, he => by
    simp only [run1] at he ⊢
    split at he
    · simp at he
    · split at he
      · simp at he
      · split at he
        · simp at he
        · rename_i h1 h2 h3
          rw [if_neg h1, if_neg h2, if_neg h3]
          have := run1_sum L _ _ (by omega) he
          rw [bytesL_len] at *
          simp only [sumL, List.map_cons, List.sum_cons] at *
          omega
theorem run1_may : ∀ (L : List OpL) (Z : List (ByteArray × Int)) (h : Int) {Z' : List (ByteArray × Int)} {h' : Int}, run1 L Z h = (Z', h', 0) → ∀ o ∈ L, o.kind = 4 → MayN o.num
  | [], Z, h, _, _, _, o, ho => by simp at ho
  | x :: L, Z, h, Z', h', he, o, ho => by
    simp only [run1] at he
    split at he
    · simp at he
    · rename_i h1
      split at he
      · simp at he
      · split at he
        · simp at he
        · rcases List.mem_cons.1 ho with rfl | ho
          · intro e
            refine mayN_of ?_
            cases hmb : mayB o.num with
            | true => rfl
            | false => exact absurd ⟨e, hmb⟩ h1
          · exact run1_may L _ _ he o ho
end Go.Proofs.Ytnkjmmbhjhmgdaa
