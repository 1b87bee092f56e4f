/- Registers, and a case, as arguments of a law: what they are. -/
import Derived.Test.YtbhpmnhlmeglcaaGreatRows
import Derived.Test.YtbhpmnhlmeglcaaGreatTReg
import Derived.WalkKit
import Derived.Below
import Derived.ChangeOld
import Derived.ProofKit
import Derived.OpenShut
import Derived.ShutString
import Derived.WideKeyArgs
namespace Go.Proofs.YtbhpmnhlmeglcaaGreat
set_option linter.unusedSimpArgs false
set_option linter.unusedVariables false
open Go.ChangeShapes Go.WideShapes Go.ChangeAt Go.RowKit
theorem wf_u8 {x : Int} (h : (Lit.int .u8 x).wf = true) : B8 x := by
  simp [Lit.wf, IntKind.min, IntKind.max, IntKind.bits, IntKind.signed] at h
  exact ⟨by omega, by omega⟩
theorem wf_u16 {x : Int} (h : (Lit.int .u16 x).wf = true) : B16 x := by
  simp [Lit.wf, IntKind.min, IntKind.max, IntKind.bits, IntKind.signed] at h
  exact ⟨by omega, by omega⟩
section
variable {H : Type} {enc : TypeId × Value → H} {W : World} {base : Nat} {spare : Nat → Bool} {held : Bool}
theorem fld_int {t : TypeId} {k : IntKind} (hu : Tryz.prog.underlying t = some (.int k)) (hc : Tryz.prog.cellsOf t = 1) {l : List Value} {i n : Nat} (hi : i < l.length) {y : Option (DataW H × List MemPlace)} (hy : y.isSome)
    (h : DataW.trod enc Tryz.prog W base spare held n t ((l.drop i).take (Tryz.prog.cellsOf t)) = y) : ∃ x, l[i]? = some (.int k x) ∧ (Lit.int k x).wf = true ∧ y.map (·.2) = some [] := by
  obtain ⟨z, rfl⟩ := Option.isSome_iff_exists.1 hy
  obtain ⟨x, h1, h2, h3⟩ := DataW.trod_int hu h
  rw [hc, List.drop_eq_getElem_cons hi] at h1
  rw [List.take_succ_cons] at h1
  injection h1 with h1
  exact ⟨x, by rw [List.getElem?_eq_getElem hi, h1], h3, by rw [h2]; rfl⟩
theorem fld_bool {t : TypeId} (hu : Tryz.prog.underlying t = some .bool) (hc : Tryz.prog.cellsOf t = 1) {l : List Value} {i n : Nat} (hi : i < l.length) {y : Option (DataW H × List MemPlace)} (hy : y.isSome)
    (h : DataW.trod enc Tryz.prog W base spare held n t ((l.drop i).take (Tryz.prog.cellsOf t)) = y) : ∃ x, l[i]? = some (.bool x) ∧ y.map (·.2) = some [] := by
  obtain ⟨z, rfl⟩ := Option.isSome_iff_exists.1 hy
  obtain ⟨x, h1, h2⟩ := DataW.trod_bool hu h
  rw [hc, List.drop_eq_getElem_cons hi] at h1
  rw [List.take_succ_cons] at h1
  injection h1 with h1
  exact ⟨x, by rw [List.getElem?_eq_getElem hi, h1], by rw [h2]; rfl⟩
theorem cells5 : Tryz.prog.cellsOf 5 = 1 := by kernel_rfl
theorem cells22 : Tryz.prog.cellsOf 22 = 1 := by kernel_rfl
theorem cells4 : Tryz.prog.cellsOf 4 = 1 := by kernel_rfl
theorem cells24 : Tryz.prog.cellsOf 24 = 30 := by kernel_rfl
set_option maxRecDepth 100000 in
set_option maxHeartbeats 2000000 in
theorem rg_of_trod {l : List Value} (hl : l.length = 30) {fuel : Nat} {d : DataW H} {p : List MemPlace} (hf : DataW.trod enc Tryz.prog W base spare held fuel 24 l = some (d, p)) : ∃ r : Rg, r.Ok ∧ l = r.cells ∧ p = [] := by
  obtain ⟨xs, n, _, hx, _, hlen, hg⟩ := DataW.trod_struct Tryz.underlying24 hf
  have hx30 : xs.length = 30 := hlen
  have hs : ∀ i, i < 30 → (xs[i]?).isSome := fun i hi => by rw [List.getElem?_eq_getElem (by omega)]; rfl
  have hlt : ∀ i, i < 30 → i < l.length := fun i hi => by show i < l.length; omega
  obtain ⟨x0, e0, q0, y0⟩ := fld_int Tryz.underlying5 cells5 (hlt 0 (by omega)) (hs 0 (by omega)) (hg 0 _ rfl)
  obtain ⟨x1, e1, q1, y1⟩ := fld_int Tryz.underlying5 cells5 (hlt 1 (by omega)) (hs 1 (by omega)) (hg 1 _ rfl)
  obtain ⟨x2, e2, q2, y2⟩ := fld_int Tryz.underlying5 cells5 (hlt 2 (by omega)) (hs 2 (by omega)) (hg 2 _ rfl)
  obtain ⟨x3, e3, q3, y3⟩ := fld_int Tryz.underlying5 cells5 (hlt 3 (by omega)) (hs 3 (by omega)) (hg 3 _ rfl)
  obtain ⟨x4, e4, q4, y4⟩ := fld_int Tryz.underlying5 cells5 (hlt 4 (by omega)) (hs 4 (by omega)) (hg 4 _ rfl)
  obtain ⟨x5, e5, q5, y5⟩ := fld_int Tryz.underlying5 cells5 (hlt 5 (by omega)) (hs 5 (by omega)) (hg 5 _ rfl)
  obtain ⟨x6, e6, q6, y6⟩ := fld_int Tryz.underlying5 cells5 (hlt 6 (by omega)) (hs 6 (by omega)) (hg 6 _ rfl)
  obtain ⟨x7, e7, q7, y7⟩ := fld_int Tryz.underlying5 cells5 (hlt 7 (by omega)) (hs 7 (by omega)) (hg 7 _ rfl)
  obtain ⟨x8, e8, q8, y8⟩ := fld_int Tryz.underlying5 cells5 (hlt 8 (by omega)) (hs 8 (by omega)) (hg 8 _ rfl)
  obtain ⟨x9, e9, q9, y9⟩ := fld_int Tryz.underlying5 cells5 (hlt 9 (by omega)) (hs 9 (by omega)) (hg 9 _ rfl)
  obtain ⟨x10, e10, q10, y10⟩ := fld_int Tryz.underlying5 cells5 (hlt 10 (by omega)) (hs 10 (by omega)) (hg 10 _ rfl)
  obtain ⟨x11, e11, q11, y11⟩ := fld_int Tryz.underlying5 cells5 (hlt 11 (by omega)) (hs 11 (by omega)) (hg 11 _ rfl)
  obtain ⟨x12, e12, q12, y12⟩ := fld_int Tryz.underlying5 cells5 (hlt 12 (by omega)) (hs 12 (by omega)) (hg 12 _ rfl)
  obtain ⟨x13, e13, q13, y13⟩ := fld_int Tryz.underlying5 cells5 (hlt 13 (by omega)) (hs 13 (by omega)) (hg 13 _ rfl)
  obtain ⟨x14, e14, q14, y14⟩ := fld_int Tryz.underlying5 cells5 (hlt 14 (by omega)) (hs 14 (by omega)) (hg 14 _ rfl)
  obtain ⟨x15, e15, q15, y15⟩ := fld_int Tryz.underlying5 cells5 (hlt 15 (by omega)) (hs 15 (by omega)) (hg 15 _ rfl)
  obtain ⟨x16, e16, q16, y16⟩ := fld_int Tryz.underlying5 cells5 (hlt 16 (by omega)) (hs 16 (by omega)) (hg 16 _ rfl)
  obtain ⟨x17, e17, q17, y17⟩ := fld_int Tryz.underlying5 cells5 (hlt 17 (by omega)) (hs 17 (by omega)) (hg 17 _ rfl)
  obtain ⟨x18, e18, q18, y18⟩ := fld_int Tryz.underlying5 cells5 (hlt 18 (by omega)) (hs 18 (by omega)) (hg 18 _ rfl)
  obtain ⟨x19, e19, q19, y19⟩ := fld_int Tryz.underlying22 cells22 (hlt 19 (by omega)) (hs 19 (by omega)) (hg 19 _ rfl)
  obtain ⟨x20, e20, q20, y20⟩ := fld_int Tryz.underlying22 cells22 (hlt 20 (by omega)) (hs 20 (by omega)) (hg 20 _ rfl)
  obtain ⟨x21, e21, q21, y21⟩ := fld_int Tryz.underlying22 cells22 (hlt 21 (by omega)) (hs 21 (by omega)) (hg 21 _ rfl)
  obtain ⟨x22, e22, q22, y22⟩ := fld_int Tryz.underlying22 cells22 (hlt 22 (by omega)) (hs 22 (by omega)) (hg 22 _ rfl)
  obtain ⟨x23, e23, q23, y23⟩ := fld_int Tryz.underlying22 cells22 (hlt 23 (by omega)) (hs 23 (by omega)) (hg 23 _ rfl)
  obtain ⟨x24, e24, y24⟩ := fld_bool Tryz.underlying4 cells4 (hlt 24 (by omega)) (hs 24 (by omega)) (hg 24 _ rfl)
  obtain ⟨x25, e25, y25⟩ := fld_bool Tryz.underlying4 cells4 (hlt 25 (by omega)) (hs 25 (by omega)) (hg 25 _ rfl)
  obtain ⟨x26, e26, y26⟩ := fld_bool Tryz.underlying4 cells4 (hlt 26 (by omega)) (hs 26 (by omega)) (hg 26 _ rfl)
  obtain ⟨x27, e27, y27⟩ := fld_bool Tryz.underlying4 cells4 (hlt 27 (by omega)) (hs 27 (by omega)) (hg 27 _ rfl)
  obtain ⟨x28, e28, q28, y28⟩ := fld_int Tryz.underlying5 cells5 (hlt 28 (by omega)) (hs 28 (by omega)) (hg 28 _ rfl)
  obtain ⟨x29, e29, q29, y29⟩ := fld_int Tryz.underlying5 cells5 (hlt 29 (by omega)) (hs 29 (by omega)) (hg 29 _ rfl)
  refine ⟨⟨x0, x1, x2, x3, x4, x5, x6, x7, x8, x9, x10, x11, x12, x13, x14, x15, x16, x17, x18, x19, x20, x21, x22, x23, x24, x25, x26, x27, x28, x29⟩, ⟨wf_u8 q0, wf_u8 q1, wf_u8 q2, wf_u8 q3, wf_u8 q4, wf_u8 q5, wf_u8 q6, wf_u8 q7, wf_u8 q8, wf_u8 q9, wf_u8 q10, wf_u8 q11, wf_u8 q12, wf_u8 q13, wf_u8 q14, wf_u8 q15, wf_u8 q16, wf_u8 q17, wf_u8 q18, wf_u16 q19, wf_u16 q20, wf_u16 q21, wf_u16 q22, wf_u16 q23, wf_u8 q28, wf_u8 q29⟩, ?_, ?_⟩
  · have : l = Rg.cells ⟨x0, x1, x2, x3, x4, x5, x6, x7, x8, x9, x10, x11, x12, x13, x14, x15, x16, x17, x18, x19, x20, x21, x22, x23, x24, x25, x26, x27, x28, x29⟩ := by
      apply List.ext_getElem?
      intro i
      match i with
      | 0 => exact e0
      | 1 => exact e1
      | 2 => exact e2
      | 3 => exact e3
      | 4 => exact e4
      | 5 => exact e5
      | 6 => exact e6
      | 7 => exact e7
      | 8 => exact e8
      | 9 => exact e9
      | 10 => exact e10
      | 11 => exact e11
      | 12 => exact e12
      | 13 => exact e13
      | 14 => exact e14
      | 15 => exact e15
      | 16 => exact e16
      | 17 => exact e17
      | 18 => exact e18
      | 19 => exact e19
      | 20 => exact e20
      | 21 => exact e21
      | 22 => exact e22
      | 23 => exact e23
      | 24 => exact e24
      | 25 => exact e25
      | 26 => exact e26
      | 27 => exact e27
      | 28 => exact e28
      | 29 => exact e29
      | i + 30 =>
        rw [List.getElem?_eq_none (by omega), List.getElem?_eq_none (by show 30 ≤ i + 30; omega)]
    rw [this]
  · have hp : p = xs.flatMap (·.2) := congrArg Prod.snd hx
    rw [hp, List.flatMap_eq_nil_iff]
    intro z hz
    obtain ⟨i, hi, rfl⟩ := List.getElem_of_mem hz
    have key : (xs[i]?).map (·.2) = some [] := by
      have : i < 30 := by omega
      match i, this with
      | 0, _ => exact y0
      | 1, _ => exact y1
      | 2, _ => exact y2
      | 3, _ => exact y3
      | 4, _ => exact y4
      | 5, _ => exact y5
      | 6, _ => exact y6
      | 7, _ => exact y7
      | 8, _ => exact y8
      | 9, _ => exact y9
      | 10, _ => exact y10
      | 11, _ => exact y11
      | 12, _ => exact y12
      | 13, _ => exact y13
      | 14, _ => exact y14
      | 15, _ => exact y15
      | 16, _ => exact y16
      | 17, _ => exact y17
      | 18, _ => exact y18
      | 19, _ => exact y19
      | 20, _ => exact y20
      | 21, _ => exact y21
      | 22, _ => exact y22
      | 23, _ => exact y23
      | 24, _ => exact y24
      | 25, _ => exact y25
      | 26, _ => exact y26
      | 27, _ => exact y27
      | 28, _ => exact y28
      | 29, _ => exact y29
      | j + 30, hj => exact absurd hj (by omega)
    rw [List.getElem?_eq_getElem hi] at key
    simpa using key
theorem cellsCase : Tryz.prog.cellsOf 28 = 37 := by kernel_rfl
set_option maxRecDepth 100000 in
set_option maxHeartbeats 2000000 in
theorem open_case {reach : Reach} {b0 : Nat} {v : Value} {d : DataW H} {p : List MemPlace} (hv : Value.okWide Tryz.prog W reach b0 28 v) (h : DataW.Trod enc Tryz.prog W base spare held 28 v d p) :
    ∃ (r : Rg) (X : List Value), r.Ok ∧ v = .agg (r.cells ++ X).toArray ∧ X.length = 7 := by
  obtain ⟨cs, rfl, hsz⟩ := okWide_struct Tryz.underlying28 hv
  obtain ⟨l⟩ := cs
  have hl : l.length = 37 := hsz.trans cellsCase
  obtain ⟨fuel, hf⟩ := h
  obtain ⟨xs, n, _, hx, _, hlen, hg⟩ := DataW.trod_struct Tryz.underlying28 hf
  have hx4 : xs.length = 4 := hlen
  have h0 := hg 0 _ rfl
  obtain ⟨⟨d0, p0⟩, hx0⟩ : ∃ z, xs[0]? = some z := ⟨_, List.getElem?_eq_getElem (by omega)⟩
  rw [hx0] at h0
  have h0' : DataW.trod enc Tryz.prog W base spare held n 24 (l.take 30) = some (d0, p0) := by
    rw [← h0]
    show DataW.trod enc Tryz.prog W base spare held n 24 (l.take 30) = DataW.trod enc Tryz.prog W base spare held n 24 ((l.drop 0).take (Tryz.prog.cellsOf 24))
    rw [cells24, List.drop_zero]
  obtain ⟨r, hr, hlr, -⟩ := rg_of_trod (by rw [List.length_take, hl]; rfl) h0'
  refine ⟨r, l.drop 30, hr, ?_, by rw [List.length_drop, hl]⟩
  rw [← hlr, List.take_append_drop]
end
end Go.Proofs.YtbhpmnhlmeglcaaGreat
