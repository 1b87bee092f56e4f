/- cpu: a new bus. -/
import Derived.Test.YtbhpmnhlmeglcaaGreatTBusZ
import Derived.Great.Ranges
namespace Go.Proofs.YtbhpmnhlmeglcaaGreat
set_option linter.unusedSimpArgs false
set_option linter.unusedVariables false
open Go.RowKit
def isZ8 : Value → Bool
  | .int .u8 n => n == 0
  | _ => false
def chkFlat (l : List Value) : Bool := (l.take 65536).all isZ8
set_option maxRecDepth 1000000 in
theorem zflatA : ((Tryz.prog.info? 37).bind (·.zero)).map (fun z => chkFlat z.cells.toList) = some true := by kernel_rfl
set_option maxRecDepth 1000000 in
theorem zflatB : ((Tryz.prog.info? 37).bind (·.zero)).map (fun z => z.cells.toList.drop 65536) = some [.slice none 0 0, .slice none 0 0, .int .u64 0, .bool false] := by kernel_rfl
set_option maxRecDepth 1000000 in
theorem zflatC : Tryz.prog.built 37 [] = ((Tryz.prog.info? 37).bind (·.zero)).map (·.cells) := by kernel_rfl
theorem isZ8_eq {v : Value} (h : isZ8 v = true) : v = .int .u8 0 := by
  unfold isZ8 at h
  split at h
  · have := beq_iff_eq.1 h
    rw [this]
  · cases h
/-- a bus that is empty -/
def fl0 : Fl := ⟨List.replicate 65536 0, 0, false, []⟩
theorem flat_zero : ∃ Z : Array Value, Tryz.prog.built 37 [] = some Z ∧ Z.toList = fl0.m.map (.int .u8) ++ [.slice none 0 0, .slice none 0 0, .int .u64 0, .bool false] := by
  have hA := zflatA
  have hB := zflatB
  rw [zflatC]
  cases hz : (Tryz.prog.info? 37).bind (·.zero) with
  | none => rw [hz] at hA; cases hA
  | some z =>
    rw [hz] at hA hB
    have hA' : chkFlat z.cells.toList = true := by injection hA
    have hB' : z.cells.toList.drop 65536 = [.slice none 0 0, .slice none 0 0, .int .u64 0, .bool false] := by injection hB
    refine ⟨z.cells, rfl, ?_⟩
    have hl : z.cells.toList.length = 65540 := by
      have := congrArg List.length hB'
      rw [List.length_drop] at this
      simp at this
      simp
      omega
    obtain ⟨l, hll⟩ : ∃ l, l = z.cells.toList := ⟨_, rfl⟩
    rw [← hll] at hA' hB' hl ⊢
    have ht : l.take 65536 = (List.replicate 65536 (0 : Int)).map (Value.int .u8) := by
      rw [List.map_replicate]
      refine List.eq_replicate_iff.2 ⟨by rw [List.length_take, hl]; rfl, fun v hv => isZ8_eq ?_⟩
      unfold chkFlat at hA'
      rw [List.all_eq_true] at hA'
      exact hA' v hv
    show l = (List.replicate 65536 (0 : Int)).map (Value.int .u8) ++ _
    rw [← ht, ← hB', List.take_append_drop]
end Go.Proofs.YtbhpmnhlmeglcaaGreat
