/- Registers as an argument of a law. -/
import Derived.Test.YtbhpmnhlmeglcaaGreatCpArg
namespace Go.Proofs.YtbhpmnhlmeglcaaGreat
set_option linter.unusedSimpArgs false
set_option linter.unusedVariables false
open Go.ChangeShapes Go.WideShapes Go.ChangeAt Go.RowKit
section
variable {H : Type} {enc : TypeId × Value → H} {W : World} {base : Nat} {spare : Nat → Bool} {held : Bool}
set_option maxRecDepth 100000 in
theorem open_rg {reach : Reach} {b0 : Nat} {v : Value} {d : DataW H} {p : List MemPlace} (hv : Value.okWide Tryz.prog W reach b0 24 v) (h : DataW.Trod enc Tryz.prog W base spare held 24 v d p) :
    ∃ r : Rg, r.Ok ∧ v = .agg r.cells.toArray ∧ p = [] := by
  obtain ⟨cs, rfl, hsz⟩ := okWide_struct Tryz.underlying24 hv
  obtain ⟨l⟩ := cs
  have hl : l.length = 30 := hsz.trans cells24
  obtain ⟨fuel, hf⟩ := h
  obtain ⟨r, hr, rfl, hp⟩ := rg_of_trod hl hf
  exact ⟨r, hr, rfl, hp⟩
theorem stay_rg {W' : World} {v : Value} {d : DataW H} {sp' : Nat → Bool} (h : DataW.Trod enc Tryz.prog W base (fun _ => true) true 24 v d []) : DataW.Trod enc Tryz.prog W' base sp' true 24 v d [] :=
  WideElems.Trod_stays (by kernel_rfl) (by kernel_rfl) (of_decide_eq_true (by kernel_rfl)) h (fun _ h => by cases h) (fun _ h => by cases h)
end
end Go.Proofs.YtbhpmnhlmeglcaaGreat
