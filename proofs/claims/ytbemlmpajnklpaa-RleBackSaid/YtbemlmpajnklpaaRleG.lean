/- Numbers that came in, as the frames tell of them. -/
import Derived.Test.YtbemlmpajnklpaaRleF
namespace Go.Proofs.Ytbemlmpajnklpaa
set_option linter.unusedSimpArgs false
set_option linter.unusedVariables false
open Go.RowKit
theorem ints_of_row {k : IntKind} {w : World} {a : Option Addr} {len cap : Nat} {zs : List Int} (h : (a = none ∧ len = 0 ∧ cap = 0 ∧ zs = []) ∨
    ∃ x, a = some x ∧ len ≤ cap ∧ cap ≤ maxLen ∧ zs.length = cap ∧ (∀ i, i < zs.length → w.cell? (x.add i) = some (.int k (zs.getD i 0))) ∧ ∀ n ∈ zs, (Lit.int k n).wf = true) :
    ∃ l : List Int, l.length = len ∧ Ints w a k l ∧ (∀ n ∈ l, (Lit.int k n).wf = true) ∧ len ≤ cap := by
  rcases h with ⟨rfl, rfl, rfl, rfl⟩ | ⟨x, rfl, hl, hm, hz, hc, hw⟩
  · exact ⟨[], rfl, fun i v hi => by simp at hi, fun n hn => by simp at hn, by omega⟩
  · refine ⟨zs.take len, by simp; omega, fun i v hi => ?_, fun n hn => hw n (List.mem_of_mem_take hn), hl⟩
    have hi2 : i < len := by
      have := (List.getElem?_eq_some_iff.1 hi).1
      simp at this; omega
    refine ⟨x, rfl, ?_⟩
    rw [hc i (by omega), ← hi]
    simp only [List.getElem?_map, List.getElem?_take, if_pos hi2]
    rw [List.getElem?_eq_getElem (by omega)]
    simp [List.getD, List.getElem?_eq_getElem (show i < zs.length by omega)]
end Go.Proofs.Ytbemlmpajnklpaa
