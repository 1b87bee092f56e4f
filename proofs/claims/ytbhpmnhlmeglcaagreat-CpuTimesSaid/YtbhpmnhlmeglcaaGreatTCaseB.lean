/- A case as an argument of a law: registers, code, what fills memory. -/
import Derived.Test.YtbhpmnhlmeglcaaGreatTCpArg
import Derived.Test.YtbhpmnhlmeglcaaGreatTCtD
import Derived.ChangeSame
namespace Go.Proofs.YtbhpmnhlmeglcaaGreat
set_option linter.unusedSimpArgs false
set_option linter.unusedVariables false
open Go.ChangeShapes Go.WideShapes Go.ChangeAt Go.RowKit
section
variable {H : Type} {enc : TypeId × Value → H} {W : World} {base : Nat} {held : Bool}
theorem cBsC : Tryz.prog.cellsOf 25 = 1 := by kernel_rfl
theorem cU8C : Tryz.prog.cellsOf 5 = 1 := by kernel_rfl
theorem c5C : Tryz.prog.cellsOf 26 = 5 := by kernel_rfl
theorem open_bytesC {n : Nat} {v : Value} {y : DataW H × List MemPlace} (h : DataW.trod enc Tryz.prog W base (fun _ => true) held n 25 [v] = some y) :
    ∃ (A : Option Addr) (c : Nat) (l : List Int), v = .slice A l.length c ∧ Ints W A .u8 l ∧ ∀ x ∈ l, B8 x := by
  rcases open_ints Tryz.underlying25 Tryz.underlying5 cU8C h with ⟨hcs, _⟩ | ⟨x, l, c, zs, hcs, _, hl, hm, hz, _, hcell, hwz⟩
  · injection hcs with hcs
    exact ⟨none, 0, [], hcs, fun i v hi => by simp at hi, fun x hx => by simp at hx⟩
  · injection hcs with hcs
    simp only [if_true] at hz
    have hln : (zs.take l).length = l := by simp; omega
    refine ⟨some x, c, zs.take l, by rw [hln]; exact hcs, fun i v hi => ?_, fun n hn => wf_u8 (hwz n (List.mem_of_mem_take hn))⟩
    have hi2 : i < l := by
      have := (List.getElem?_eq_some_iff.1 hi).1
      simp at this; omega
    refine ⟨x, rfl, ?_⟩
    rw [hcell i (by omega), ← hi]
    simp only [List.getElem?_map, List.getElem?_take, if_pos hi2]
    rw [List.getElem?_eq_getElem (by omega)]
    simp [List.getD, List.getElem?_eq_getElem (show i < zs.length by omega)]
set_option maxRecDepth 100000 in
set_option maxHeartbeats 2000000 in
theorem open_case2 {reach : Reach} {b0 : Nat} {v : Value} {d : DataW H} {p : List MemPlace} (hv : Value.okWide Tryz.prog W reach b0 28 v) (h : DataW.Trod enc Tryz.prog W base (fun _ => true) held 28 v d p) :
    ∃ (C : List Value) (r : Rg) (n : Nat), v = .agg C.toArray ∧ CaseIs W C r n := by
  obtain ⟨cs, rfl, hsz⟩ := okWide_struct Tryz.underlying28 hv
  obtain ⟨l⟩ := cs
  have hl : l.length = 37 := hsz.trans cellsCase
  obtain ⟨fuel, hf⟩ := h
  obtain ⟨xs, n, _, hx, _, hlen, hg⟩ := DataW.trod_struct Tryz.underlying28 hf
  have hx4 : xs.length = 4 := hlen
  have h0 := hg 0 _ rfl
  obtain ⟨⟨d0, p0⟩, hx0⟩ : ∃ z, xs[0]? = some z := ⟨_, List.getElem?_eq_getElem (by omega)⟩
  obtain ⟨y1, hx1⟩ : ∃ z, xs[1]? = some z := ⟨_, List.getElem?_eq_getElem (by omega)⟩
  obtain ⟨y2, hx2⟩ : ∃ z, xs[2]? = some z := ⟨_, List.getElem?_eq_getElem (by omega)⟩
  rw [hx0] at h0
  have h0' : DataW.trod enc Tryz.prog W base (fun _ => true) held n 24 (l.take 30) = some (d0, p0) := by
    rw [← h0]
    show DataW.trod enc Tryz.prog W base (fun _ => true) held n 24 (l.take 30) = DataW.trod enc Tryz.prog W base (fun _ => true) held n 24 ((l.drop 0).take (Tryz.prog.cellsOf 24))
    rw [cells24, List.drop_zero]
  obtain ⟨r, hr, hlr, -⟩ := rg_of_trod (by rw [List.length_take, hl]; rfl) h0'
  have h1 : DataW.trod enc Tryz.prog W base (fun _ => true) held n 25 [l[30]] = some y1 := by
    have := hg 1 _ rfl
    rw [hx1] at this
    rw [← this]
    show _ = DataW.trod enc Tryz.prog W base (fun _ => true) held n 25 ((l.drop 30).take (Tryz.prog.cellsOf 25))
    rw [cBsC, List.drop_eq_getElem_cons (by omega), List.take_succ_cons, List.take_zero]
  obtain ⟨A, c, q, e1, hi, hq⟩ := open_bytesC h1
  have h2 : DataW.trod enc Tryz.prog W base (fun _ => true) held n 26 ((l.drop 31).take 5) = some y2 := by
    have := hg 2 _ rfl
    rw [hx2] at this
    rw [← this]
    show _ = DataW.trod enc Tryz.prog W base (fun _ => true) held n 26 ((l.drop 31).take (Tryz.prog.cellsOf 26))
    rw [c5C]
  obtain ⟨zs, m, _, _, _, hzl, hza⟩ := DataW.trod_array Tryz.underlying26 h2
  refine ⟨l, r, q.length, rfl, hl, hr, fun j v hj => ?_, ⟨A, c, q, ?_, rfl, hi, hq⟩, fun k hk => ?_⟩
  · rw [← hlr] at hj
    have hj2 := (List.getElem?_eq_some_iff.1 hj).1
    rw [List.length_take] at hj2
    rw [List.getElem?_take, if_pos (by omega)] at hj
    exact hj
  · rw [List.getElem?_eq_getElem (by omega), e1]
  · have h3 := hza k hk
    rw [cU8C, Nat.mul_one, List.getElem?_eq_getElem (by omega)] at h3
    rw [List.drop_eq_getElem_cons (by simp; omega), List.take_succ_cons, List.take_zero] at h3
    obtain ⟨x, e, _, _⟩ := DataW.trod_int Tryz.underlying5 h3
    injection e with e
    refine ⟨x, ?_⟩
    rw [List.getElem?_eq_getElem (by omega), ← e]
    simp
end
end Go.Proofs.YtbhpmnhlmeglcaaGreat
