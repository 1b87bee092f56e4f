/- Two ints, slices of ints, as arguments of a law: what they are. -/
import Derived.Test.YtiiipklbbajadaaRows
import Derived.Test.YtiiipklbbajadaaMem
import Derived.WalkKit
import Derived.Below
import Derived.ChangeOld
import Derived.ProofKit
import Derived.OpenShut
import Derived.ShutString
import Derived.WideKeyArgs
namespace Go.Proofs.Ytiiipklbbajadaa
set_option linter.unusedSimpArgs false
set_option linter.unusedVariables false
set_option maxRecDepth 100000
open Go.ChangeShapes Go.WideShapes Go.ChangeAt Go.RowKit
section
variable {H : Type} {enc : TypeId × Value → H} {W : World} {base : Nat} {spare : Nat → Bool} {held : Bool}
theorem fld_int {t : TypeId} {k : IntKind} (hu : Try.prog.underlying t = some (.int k)) (hc : Try.prog.cellsOf t = 1) {l : List Value} {i n : Nat} (hi : i < l.length) {y : Option (DataW H × List MemPlace)} (hy : y.isSome)
    (h : DataW.trod enc Try.prog W base spare held n t ((l.drop i).take (Try.prog.cellsOf t)) = y) : ∃ x, l[i]? = some (.int k x) ∧ (Lit.int k x).wf = true ∧ y.map (·.2) = some [] := by
  obtain ⟨z, rfl⟩ := Option.isSome_iff_exists.1 hy
  obtain ⟨x, h1, h2, h3⟩ := DataW.trod_int hu h
  rw [hc, List.drop_eq_getElem_cons hi] at h1
  rw [List.take_succ_cons] at h1
  injection h1 with h1
  exact ⟨x, by rw [List.getElem?_eq_getElem hi, h1], h3, by rw [h2]; rfl⟩
theorem fld_elem {t : TypeId} {k : IntKind} (hu : Try.prog.underlying t = some (.int k)) (hc : Try.prog.cellsOf t = 1) {l : List Value} {i n : Nat} (hi : i < l.length) {y : Option (DataW H × List MemPlace)} (hy : y.isSome)
    (h : DataW.trod enc Try.prog W base spare held n t ((l.drop (i * Try.prog.cellsOf t)).take (Try.prog.cellsOf t)) = y) : ∃ x, l[i]? = some (.int k x) ∧ (Lit.int k x).wf = true ∧ y.map (·.2) = some [] := by
  have e : i * Try.prog.cellsOf t = i := by rw [hc, Nat.mul_one]
  rw [e] at h
  exact fld_int hu hc hi hy h
theorem cells3 : Try.prog.cellsOf 3 = 1 := by kernel_rfl
theorem cells34 : Try.prog.cellsOf 23 = 2 := by kernel_rfl
theorem okWide_two {reach : Reach} {b0 : Nat} {v : Value} (h : Value.okWide Try.prog W reach b0 23 v) : ∃ cs, v = .agg cs ∧ cs.size = Try.prog.cellsOf 23 := by
  simp only [Value.okWide, Try.underlying23] at h
  obtain ⟨cs, h1, h2, _⟩ := h
  exact ⟨cs, h1, h2⟩
theorem open_two {reach : Reach} {b0 : Nat} {v : Value} {d : DataW H} {p : List MemPlace} (hv : Value.okWide Try.prog W reach b0 23 v) (h : DataW.Trod enc Try.prog W base spare held 23 v d p) :
    ∃ k ix : Int, v = .agg #[.int .i64 k, .int .i64 ix] ∧ p = [] := by
  obtain ⟨cs, rfl, hsz⟩ := okWide_two hv
  obtain ⟨l⟩ := cs
  have hl : l.length = 2 := hsz.trans cells34
  obtain ⟨fuel, hf⟩ := h
  obtain ⟨xs, n, _, hx, _, hx2, hg⟩ := DataW.trod_array Try.underlying23 hf
  have hs : ∀ i, i < 2 → (xs[i]?).isSome := fun i hi => by rw [List.getElem?_eq_getElem (by omega)]; rfl
  have hlt : ∀ i, i < 2 → i < (Value.agg ⟨l⟩).cells.toList.length := fun i hi => by show i < l.length; omega
  obtain ⟨x0, e0, _, y0⟩ := fld_elem Try.underlying3 cells3 (hlt 0 (by omega)) (hs 0 (by omega)) (hg 0 (by omega))
  obtain ⟨x1, e1, _, y1⟩ := fld_elem Try.underlying3 cells3 (hlt 1 (by omega)) (hs 1 (by omega)) (hg 1 (by omega))
  refine ⟨x0, x1, ?_, ?_⟩
  · have : l = [.int .i64 x0, .int .i64 x1] := by
      apply List.ext_getElem?
      intro i
      match i with
      | 0 => exact e0
      | 1 => exact e1
      | i + 2 =>
        rw [List.getElem?_eq_none (by omega), List.getElem?_eq_none (by show 2 ≤ i + 2; omega)]
    rw [this]
  · have hp : p = xs.flatMap (·.2) := congrArg Prod.snd hx
    rw [hp, List.flatMap_eq_nil_iff]
    intro z hz
    obtain ⟨i, hi, rfl⟩ := List.getElem_of_mem hz
    have key : (xs[i]?).map (·.2) = some [] := by
      have : i < 2 := by omega
      match i, this with
      | 0, _ => exact y0
      | 1, _ => exact y1
      | j + 2, hj => exact absurd hj (by omega)
    rw [List.getElem?_eq_getElem hi] at key
    simpa using key
/-- what lies in no memory reads the same in every world -/
theorem stay_two {W' : World} {v : Value} {d : DataW H} {sp' : Nat → Bool} (h : DataW.Trod enc Try.prog W base (fun _ => true) true 23 v d []) : DataW.Trod enc Try.prog W' base sp' true 23 v d [] :=
  WideElems.Trod_stays (by kernel_rfl) (by kernel_rfl) (of_decide_eq_true (by kernel_rfl)) h (fun _ h => by cases h) (fun _ h => by cases h)
end
end Go.Proofs.Ytiiipklbbajadaa
