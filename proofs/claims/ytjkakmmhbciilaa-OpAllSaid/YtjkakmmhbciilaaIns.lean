/- An instruction as an argument of a law: what it is. -/
import Derived.Test.YtjkakmmhbciilaaRows
import Derived.Test.YtjkakmmhbciilaaMem
import Derived.WalkKit
import Derived.Below
import Derived.ChangeOld
import Derived.ProofKit
import Derived.OpenShut
import Derived.ShutString
import Derived.WideKeyArgs
namespace Go.Proofs.Ytjkakmmhbciilaa
set_option linter.unusedSimpArgs false
set_option linter.unusedVariables false
open Go.ChangeShapes Go.WideShapes Go.ChangeAt Go.RowKit
theorem u16_wf {x : Int} (h : (Lit.int .u16 x).wf = true) : 0 ≤ x ∧ x ≤ 65535 := by
  simp [Lit.wf, IntKind.min, IntKind.max, IntKind.bits, IntKind.signed] at h
  exact ⟨by omega, by omega⟩
/-- an instruction's parts fit -/
structure InsOk (s ix c d n ln : Int) : Prop where
  s : (Lit.int .i64 s).wf = true
  ix : (Lit.int .i64 ix).wf = true
  c : (Lit.int .u8 c).wf = true
  d : (Lit.int .u8 d).wf = true
  n : (Lit.int .u16 n).wf = true
  ln : (Lit.int .i64 ln).wf = true
section
variable {H : Type} {enc : TypeId × Value → H} {W : World} {base : Nat} {spare : Nat → Bool} {held : Bool}
theorem fld_int {t : TypeId} {k : IntKind} (hu : Try.prog.underlying t = some (.int k)) (hc : Try.prog.cellsOf t = 1) {l : List Value} {i n : Nat} (hi : i < l.length) {y : Option (DataW H × List MemPlace)} (hy : y.isSome)
    (h : DataW.trod enc Try.prog W base spare held n t ((l.drop i).take (Try.prog.cellsOf t)) = y) : ∃ x, l[i]? = some (.int k x) ∧ (Lit.int k x).wf = true ∧ y.map (·.2) = some [] := by
  obtain ⟨z, rfl⟩ := Option.isSome_iff_exists.1 hy
  obtain ⟨x, h1, h2, h3⟩ := DataW.trod_int hu h
  rw [hc, List.drop_eq_getElem_cons hi] at h1
  rw [List.take_succ_cons] at h1
  injection h1 with h1
  exact ⟨x, by rw [List.getElem?_eq_getElem hi, h1], h3, by rw [h2]; rfl⟩
theorem cells3 : Try.prog.cellsOf 3 = 1 := by kernel_rfl
theorem cells5 : Try.prog.cellsOf 5 = 1 := by kernel_rfl
theorem cells22 : Try.prog.cellsOf 24 = 1 := by kernel_rfl
theorem cells29 : Try.prog.cellsOf 29 = 6 := by kernel_rfl
set_option maxRecDepth 100000 in
set_option maxHeartbeats 2000000 in
theorem open_ins {reach : Reach} {b0 : Nat} {v : Value} {d : DataW H} {p : List MemPlace} (hv : Value.okWide Try.prog W reach b0 29 v) (h : DataW.Trod enc Try.prog W base spare held 29 v d p) :
    ∃ s ix c e n ln : Int, InsOk s ix c e n ln ∧ v = .agg #[.int .i64 s, .int .i64 ix, .int .u8 c, .int .u8 e, .int .u16 n, .int .i64 ln] ∧ p = [] := by
  obtain ⟨cs, rfl, hsz⟩ := okWide_struct Try.underlying29 hv
  obtain ⟨l⟩ := cs
  have hl : l.length = 6 := hsz.trans cells29
  obtain ⟨fuel, hf⟩ := h
  obtain ⟨xs, n, _, hx, _, hlen, hg⟩ := DataW.trod_struct Try.underlying29 hf
  have hx6 : xs.length = 6 := hlen
  have hs : ∀ i, i < 6 → (xs[i]?).isSome := fun i hi => by rw [List.getElem?_eq_getElem (by omega)]; rfl
  have hlt : ∀ i, i < 6 → i < (Value.agg ⟨l⟩).cells.toList.length := fun i hi => by show i < l.length; omega
  obtain ⟨x0, e0, q0, y0⟩ := fld_int Try.underlying3 cells3 (hlt 0 (by omega)) (hs 0 (by omega)) (hg 0 _ rfl)
  obtain ⟨x1, e1, q1, y1⟩ := fld_int Try.underlying3 cells3 (hlt 1 (by omega)) (hs 1 (by omega)) (hg 1 _ rfl)
  obtain ⟨x2, e2, q2, y2⟩ := fld_int Try.underlying5 cells5 (hlt 2 (by omega)) (hs 2 (by omega)) (hg 2 _ rfl)
  obtain ⟨x3, e3, q3, y3⟩ := fld_int Try.underlying5 cells5 (hlt 3 (by omega)) (hs 3 (by omega)) (hg 3 _ rfl)
  obtain ⟨x4, e4, q4, y4⟩ := fld_int Try.underlying24 cells22 (hlt 4 (by omega)) (hs 4 (by omega)) (hg 4 _ rfl)
  obtain ⟨x5, e5, q5, y5⟩ := fld_int Try.underlying3 cells3 (hlt 5 (by omega)) (hs 5 (by omega)) (hg 5 _ rfl)
  refine ⟨x0, x1, x2, x3, x4, x5, ⟨q0, q1, q2, q3, q4, q5⟩, ?_, ?_⟩
  · have : l = [.int .i64 x0, .int .i64 x1, .int .u8 x2, .int .u8 x3, .int .u16 x4, .int .i64 x5] := by
      apply List.ext_getElem?
      intro i
      match i with
      | 0 => exact e0
      | 1 => exact e1
      | 2 => exact e2
      | 3 => exact e3
      | 4 => exact e4
      | 5 => exact e5
      | i + 6 =>
        rw [List.getElem?_eq_none (by omega), List.getElem?_eq_none (by show 6 ≤ i + 6; omega)]
    rw [this]
  · have hp : p = xs.flatMap (·.2) := congrArg Prod.snd hx
    rw [hp, List.flatMap_eq_nil_iff]
    intro z hz
    obtain ⟨i, hi, rfl⟩ := List.getElem_of_mem hz
    have key : (xs[i]?).map (·.2) = some [] := by
      have : i < 6 := by omega
      match i, this with
      | 0, _ => exact y0
      | 1, _ => exact y1
      | 2, _ => exact y2
      | 3, _ => exact y3
      | 4, _ => exact y4
      | 5, _ => exact y5
      | j + 6, hj => exact absurd hj (by omega)
    rw [List.getElem?_eq_getElem hi] at key
    simpa using key
/-- what lies in no memory reads the same in every world -/
theorem stay_ins {W' : World} {v : Value} {d : DataW H} {sp' : Nat → Bool} (h : DataW.Trod enc Try.prog W base (fun _ => true) true 29 v d []) : DataW.Trod enc Try.prog W' base sp' true 29 v d [] :=
  WideElems.Trod_stays (by kernel_rfl) (by kernel_rfl) (of_decide_eq_true (by kernel_rfl)) h (fun _ h => by cases h) (fun _ h => by cases h)
end
end Go.Proofs.Ytjkakmmhbciilaa
