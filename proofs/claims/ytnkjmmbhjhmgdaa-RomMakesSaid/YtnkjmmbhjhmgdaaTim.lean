/- A timing as an argument of a law: what it is. -/
import Derived.Test.YtnkjmmbhjhmgdaaRows
import Derived.Test.YtnkjmmbhjhmgdaaMem
import Derived.WalkKit
import Derived.Below
import Derived.ChangeOld
import Derived.ProofKit
import Derived.OpenShut
import Derived.ShutString
import Derived.WideKeyArgs
namespace Go.Proofs.Ytnkjmmbhjhmgdaa
set_option linter.unusedSimpArgs false
set_option linter.unusedVariables false
open Go.ChangeShapes Go.WideShapes Go.ChangeAt Go.RowKit
/-- a timing's parts fit -/
structure TimWf (s ix c d n : Int) : Prop where
  s : (Lit.int .i64 s).wf = true
  ix : (Lit.int .i64 ix).wf = true
  c : (Lit.int .i64 c).wf = true
  d : (Lit.int .i64 d).wf = true
  n : (Lit.int .i64 n).wf = true
section
variable {H : Type} {enc : TypeId × Value → H} {W : World} {base : Nat} {spare : Nat → Bool} {held : Bool}
theorem fld_int {t : TypeId} {k : IntKind} (hu : Try.prog.underlying t = some (.int k)) (hc : Try.prog.cellsOf t = 1) {l : List Value} {i n : Nat} (hi : i < l.length) {y : Option (DataW H × List MemPlace)} (hy : y.isSome)
    (h : DataW.trod enc Try.prog W base spare held n t ((l.drop i).take (Try.prog.cellsOf t)) = y) : ∃ x, l[i]? = some (.int k x) ∧ (Lit.int k x).wf = true ∧ y.map (·.2) = some [] := by
  obtain ⟨z, rfl⟩ := Option.isSome_iff_exists.1 hy
  obtain ⟨x, h1, h2, h3⟩ := DataW.trod_int hu h
  rw [hc, List.drop_eq_getElem_cons hi] at h1
  rw [List.take_succ_cons] at h1
  injection h1 with h1
  exact ⟨x, by rw [List.getElem?_eq_getElem hi, h1], h3, by rw [h2]; rfl⟩
theorem cells3 : Try.prog.cellsOf 3 = 1 := by kernel_rfl
theorem cellsT : Try.prog.cellsOf 23 = 5 := by kernel_rfl
set_option maxRecDepth 100000 in
set_option maxHeartbeats 2000000 in
theorem open_tim {reach : Reach} {b0 : Nat} {v : Value} {d : DataW H} {p : List MemPlace} (hv : Value.okWide Try.prog W reach b0 23 v) (h : DataW.Trod enc Try.prog W base spare held 23 v d p) :
    ∃ s ix c e n : Int, TimWf s ix c e n ∧ v = .agg #[.int .i64 s, .int .i64 ix, .int .i64 c, .int .i64 e, .int .i64 n] ∧ p = [] := by
  obtain ⟨cs, rfl, hsz⟩ := okWide_struct Try.underlying23 hv
  obtain ⟨l⟩ := cs
  have hl : l.length = 5 := hsz.trans cellsT
  obtain ⟨fuel, hf⟩ := h
  obtain ⟨xs, n, _, hx, _, hlen, hg⟩ := DataW.trod_struct Try.underlying23 hf
  have hx6 : xs.length = 5 := hlen
  have hs : ∀ i, i < 5 → (xs[i]?).isSome := fun i hi => by rw [List.getElem?_eq_getElem (by omega)]; rfl
  have hlt : ∀ i, i < 5 → i < (Value.agg ⟨l⟩).cells.toList.length := fun i hi => by show i < l.length; omega
  obtain ⟨x0, e0, q0, y0⟩ := fld_int Try.underlying3 cells3 (hlt 0 (by omega)) (hs 0 (by omega)) (hg 0 _ rfl)
  obtain ⟨x1, e1, q1, y1⟩ := fld_int Try.underlying3 cells3 (hlt 1 (by omega)) (hs 1 (by omega)) (hg 1 _ rfl)
  obtain ⟨x2, e2, q2, y2⟩ := fld_int Try.underlying3 cells3 (hlt 2 (by omega)) (hs 2 (by omega)) (hg 2 _ rfl)
  obtain ⟨x3, e3, q3, y3⟩ := fld_int Try.underlying3 cells3 (hlt 3 (by omega)) (hs 3 (by omega)) (hg 3 _ rfl)
  obtain ⟨x4, e4, q4, y4⟩ := fld_int Try.underlying3 cells3 (hlt 4 (by omega)) (hs 4 (by omega)) (hg 4 _ rfl)
  refine ⟨x0, x1, x2, x3, x4, ⟨q0, q1, q2, q3, q4⟩, ?_, ?_⟩
  · have : l = [.int .i64 x0, .int .i64 x1, .int .i64 x2, .int .i64 x3, .int .i64 x4] := by
      apply List.ext_getElem?
      intro i
      match i with
      | 0 => exact e0
      | 1 => exact e1
      | 2 => exact e2
      | 3 => exact e3
      | 4 => exact e4
      | i + 5 =>
        rw [List.getElem?_eq_none (by omega), List.getElem?_eq_none (by show 5 ≤ i + 5; omega)]
    rw [this]
  · have hp : p = xs.flatMap (·.2) := congrArg Prod.snd hx
    rw [hp, List.flatMap_eq_nil_iff]
    intro z hz
    obtain ⟨i, hi, rfl⟩ := List.getElem_of_mem hz
    have key : (xs[i]?).map (·.2) = some [] := by
      have : i < 5 := by omega
      match i, this with
      | 0, _ => exact y0
      | 1, _ => exact y1
      | 2, _ => exact y2
      | 3, _ => exact y3
      | 4, _ => exact y4
      | j + 5, hj => exact absurd hj (by omega)
    rw [List.getElem?_eq_getElem hi] at key
    simpa using key
/-- what lies in no memory reads the same in every world -/
theorem stay_tim {W' : World} {v : Value} {d : DataW H} {sp' : Nat → Bool} (h : DataW.Trod enc Try.prog W base (fun _ => true) true 23 v d []) : DataW.Trod enc Try.prog W' base sp' true 23 v d [] :=
  WideElems.Trod_stays (by kernel_rfl) (by kernel_rfl) (of_decide_eq_true (by kernel_rfl)) h (fun _ h => by cases h) (fun _ h => by cases h)
end
end Go.Proofs.Ytnkjmmbhjhmgdaa
