/- CpuTimes: memory of a case, by value; a bus that has it. -/
import Derived.Test.YtbhpmnhlmeglcaaGreatTBuQ
import Derived.Great.Ranges
import Derived.BigRegion
import Derived.Laws.Rows
namespace Go.Proofs.YtbhpmnhlmeglcaaGreat
set_option linter.unusedSimpArgs false
set_option linter.unusedVariables false
open Go.RowKit
/-- all numbers are bytes -/
def AllM (m : List Int) : Prop := ∀ i : Nat, B8 (m.getD i 0)
theorem AllM.set_ {m : List Int} (h : AllM m) (a : Nat) (v : Int) (hv : B8 v) : AllM (m.set a v) := fun i => by
  have hz : B8 0 := ⟨by decide, by decide⟩
  by_cases ha : a = i
  · subst ha
    by_cases hl : a < m.length
    · rw [show (m.set a v).getD a 0 = v from by simp [List.getD, List.getElem?_set, hl]]; exact hv
    · rw [show (m.set a v).getD a 0 = 0 from by simp [List.getD, List.getElem?_set, hl]]; exact hz
  · rw [show (m.set a v).getD i 0 = m.getD i 0 from by simp [List.getD, List.getElem?_set, ha]]; exact h i
theorem wpList_allocTo {P : Program} {ops : Array Oper} {rest : List Oper} {o : Oper} {a : Act} {w : World} {Q : Exit → Act → World → Prop} (hg : o.guard = none) (t : TypeId) (ho : o.op = .alloc t)
    (dst : Option Tmp) (hdst : o.dst = dst) (N : Nat) (hN : w.heap.size = N) (Z : Value) (hz : (P.info? t).bind (·.zero) = some Z)
    (h : wpList P ops Q rest (a.put dst (.pointer (some ⟨N, 0, none⟩))) (w.alloc (.cells Z.cells t))) : wpList P ops Q (o :: rest) a w := by
  subst hdst hN
  obtain ⟨i, hi, hzz⟩ := Option.bind_eq_some_iff.1 hz
  refine wpList_plain hg fun K hK => ?_
  unfold Oper.wp execOp
  have hzr : (zeroValue t).run P w = .ok Z w := by
    unfold zeroValue typeInfo
    simp [Sem.run_bind, hi, hzz]
  simp only [ho, Sem.run_bind, Instr.alloc, newVar, newRow, run_newObj_alloc, Sem.run_pure, Result.andThen_ok, hzr]
  exact hK _ _ h
set_option maxRecDepth 1000000 in
theorem zero_bytesC : ((Tryz.prog.info? 32).bind (·.zero)).map (fun z => z.cells.toList.all isZ8 && z.cells.size == 65536) = some true := by kernel_rfl
def m0 : List Int := List.replicate 65536 0
theorem getD_rep (n i : Nat) : (List.replicate n (0 : Int)).getD i 0 = 0 := by
  rw [List.getD_eq_getElem?_getD, List.getElem?_replicate]
  split <;> rfl
theorem m0_all : AllM m0 := fun i => by
  unfold m0
  rw [getD_rep]
  exact ⟨by decide, by decide⟩
theorem zero_bytesM : ∃ Z : Value, (Tryz.prog.info? 32).bind (·.zero) = some Z ∧ Z.cells = (m0.map (Value.int .u8)).toArray := by
  have h := zero_bytesC
  cases hz : (Tryz.prog.info? 32).bind (·.zero) with
  | none => rw [hz] at h; cases h
  | some z =>
    rw [hz] at h
    have h' : (z.cells.toList.all isZ8 && z.cells.size == 65536) = true := by injection h
    rw [Bool.and_eq_true] at h'
    obtain ⟨h1, h2⟩ := h'
    have h2' : z.cells.size = 65536 := beq_iff_eq.1 h2
    refine ⟨z, rfl, ?_⟩
    rw [← Array.toList_inj]
    show z.cells.toList = (List.replicate 65536 (0 : Int)).map (Value.int .u8)
    rw [List.map_replicate]
    refine List.eq_replicate_iff.2 ⟨by rw [Array.length_toList, h2'], fun v hv => isZ8_eq ?_⟩
    rw [List.all_eq_true] at h1
    exact h1 v hv
theorem info_bytes : (Tryz.prog.info? 32).map (·.size) = some 65536 := by kernel_rfl
/-- cells laid over others -/
theorem lay_over : ∀ (vs : List Value) (k : Nat) (cs : Array Value), k + vs.length ≤ cs.size → (vs.zipIdx k).foldl (fun (cs : Array Value) (p : Value × Nat) => cs.setIfInBounds (0 + p.2) p.1) cs = (cs.toList.take k ++ vs ++ cs.toList.drop (k + vs.length)).toArray
  | [], k, cs, _ => by simp
  | v :: vs, k, cs, h => by
    rw [List.length_cons] at h
    rw [List.zipIdx_cons, List.foldl_cons, lay_over vs (k + 1) _ (by simp; omega)]
    rw [← Array.toList_inj]
    simp only [Nat.zero_add, Array.toList_setIfInBounds, List.length_cons]
    have hk : k < cs.toList.length := by simp; omega
    rw [List.take_set, List.drop_set_of_lt (by omega)]
    rw [List.take_succ_eq_append_getElem hk, List.set_append_right _ _ (by simp; omega)]
    have : k - (List.take k cs.toList).length = 0 := by simp; omega
    rw [this]
    simp
    rw [show k + 1 + vs.length = k + (vs.length + 1) by omega]
theorem lay_all (ms : List Value) (Z : Array Value) (F T : List Value) (hZ : Z.toList = F ++ T) (hl : ms.length = F.length) : (ms.zipIdx 0).foldl (fun (cs : Array Value) (p : Value × Nat) => cs.setIfInBounds (0 + p.2) p.1) Z = (ms ++ T).toArray := by
  have hz : Z.size = F.length + T.length := by rw [← Array.length_toList, hZ, List.length_append]
  rw [lay_over ms 0 Z (by omega), hZ, Nat.zero_add, hl, List.take_zero, List.nil_append, List.drop_append_of_le_length (Nat.le_refl _), List.drop_length, List.nil_append]
theorem flat_fields : ((Tryz.prog.underlying 37).bind fun d => match d with | .struct fields => fields.toList.mapM (fun f => (Tryz.prog.info? f.type).map fun i => (f.offset, i.size)) | _ => none).map (·[0]?) = some (some (0, 65536)) := by kernel_rfl
theorem flat_built (m : List Int) (hm : m.length = 65536) : Tryz.prog.built 37 [(0, .agg (m.map (Value.int .u8)).toArray)] = some (m.map (Value.int .u8) ++ [Value.slice none 0 0, Value.slice none 0 0, Value.int .u64 0, Value.bool false]).toArray := by
  obtain ⟨Z, hZ, hZl⟩ := flat_zero
  have hF := flat_fields
  unfold Program.built at hZ ⊢
  have hmz : (m.map (Value.int .u8)).length = 65536 := by rw [List.length_map]; exact hm
  have hfl : fl0.m.length = 65536 := List.length_replicate
  obtain ⟨F0, hF0⟩ : ∃ F0, F0 = fl0.m.map (Value.int .u8) := ⟨_, rfl⟩
  rw [← hF0] at hZl
  have hF1 : F0.length = 65536 := by rw [hF0, List.length_map]; exact hfl
  clear hF0 hfl
  have hzs : Z.size = 65540 := by
    have h1 := congrArg List.length hZl
    rw [List.length_append, Array.length_toList, hF1] at h1
    exact h1
  generalize m.map (Value.int .u8) = ms at hmz ⊢
  cases hi : Tryz.prog.info? 37 with
  | none => simp [hi] at hZ
  | some it =>
    cases hu : Tryz.prog.underlying 37 with
    | none => simp [hi, hu] at hZ
    | some d =>
      cases d with
      | struct fields =>
        simp only [hi, hu] at hZ
        simp only [hu, Option.bind_some] at hF
        cases hp : fields.toList.mapM (fun f => (Tryz.prog.info? f.type).map fun i => (f.offset, i.size)) with
        | none => rw [hp] at hF; cases hF
        | some places =>
          rw [hp] at hF
          have hF' : places[0]? = some (0, 65536) := by injection hF
          cases hz : it.zero with
          | none => simp [hz] at hZ
          | some z =>
            simp only [hz, hp] at hZ ⊢
            have hZ' : z.cells = Z := Option.some.inj (show some z.cells = some Z from hZ)
            have hpl : places.toArray[0]? = some (0, 65536) := by simpa using hF'
            have hsz : ms.toArray.size = 65536 := by simpa using hmz
            unfold Instr.fill
            rw [hpl, hZ']
            simp only []
            have hc : (Value.agg ms.toArray).cells = ms.toArray := rfl
            rw [hc]
            rw [if_neg (by simp [hsz, hzs])]
            unfold Instr.fill
            have e : ms.toArray.zipIdx.foldl (fun cs x => cs.setIfInBounds (0 + x.2) x.1) Z = (ms.zipIdx 0).foldl (fun (cs : Array Value) (p : Value × Nat) => cs.setIfInBounds (0 + p.2) p.1) Z := by simp
            have e2 := lay_all ms Z F0 _ hZl (by rw [hmz, hF1])
            exact congrArg some (e.trans e2)
      | _ => simp [hu] at hF
end Go.Proofs.YtbhpmnhlmeglcaaGreat
