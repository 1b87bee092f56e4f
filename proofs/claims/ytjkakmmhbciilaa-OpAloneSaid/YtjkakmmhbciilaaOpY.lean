/- Bytes that came in, as the frames tell of them. -/
import Derived.Test.YtjkakmmhbciilaaOpX
namespace Go.Proofs.Ytjkakmmhbciilaa
set_option linter.unusedSimpArgs false
set_option linter.unusedVariables false
open Go.RowKit
theorem bytes_of_row {w : World} {a : Option Addr} {len cap : Nat} {zs : List Int} (h : (a = none ∧ len = 0 ∧ cap = 0 ∧ zs = []) ∨
    ∃ x, a = some x ∧ len ≤ cap ∧ cap ≤ maxLen ∧ zs.length = cap ∧ (∀ i, i < zs.length → w.cell? (x.add i) = some (.int .u8 (zs.getD i 0))) ∧ ∀ n ∈ zs, (Lit.int .u8 n).wf = true) :
    ∃ l : List Int, l.length = len ∧ Ints w a .u8 l ∧ (∀ n ∈ l, B8 n) ∧ len ≤ cap ∧ cap ≤ 9223372036854775807 := by
  rcases h with ⟨rfl, rfl, rfl, rfl⟩ | ⟨x, rfl, hl, hm, hz, hc, hw⟩
  · exact ⟨[], rfl, fun i v hi => by simp at hi, fun n hn => by simp at hn, by omega, by omega⟩
  · refine ⟨zs.take len, by simp; omega, fun i v hi => ?_, fun n hn => ?_, hl, by unfold maxLen at hm; omega⟩
    · have hi2 : i < len := by
        have := (List.getElem?_eq_some_iff.1 hi).1
        simp at this; omega
      refine ⟨x, rfl, ?_⟩
      rw [hc i (by omega), ← hi]
      simp only [List.getElem?_map, List.getElem?_take, if_pos hi2]
      rw [List.getElem?_eq_getElem (by omega)]
      simp [List.getD, List.getElem?_eq_getElem (show i < zs.length by omega)]
    · have h := hw n (List.mem_of_mem_take hn)
      simp [Lit.wf, IntKind.min, IntKind.max, IntKind.bits, IntKind.signed] at h
      exact ⟨by omega, by omega⟩
end Go.Proofs.Ytjkakmmhbciilaa
