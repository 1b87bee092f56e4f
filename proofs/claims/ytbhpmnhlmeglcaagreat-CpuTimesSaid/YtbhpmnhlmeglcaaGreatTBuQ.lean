/- cpu.New. -/
import Derived.Test.YtbhpmnhlmeglcaaGreatTBuP
import Derived.Test.YtbhpmnhlmeglcaaGreatTMem
import Derived.Deep.MidRow
namespace Go.Proofs.YtbhpmnhlmeglcaaGreat
set_option linter.unusedSimpArgs false
set_option linter.unusedVariables false
open Go.RowKit
def Rg.newC (r : Rg) : Cp := ⟨r, [], 0, 0, 0, 0, false, 0, 0, 0, 0, false, false, -1, false, 0, 0, 0, 0, 0, false⟩
set_option maxRecDepth 100000 in
theorem built_cpu (r : Rg) (A : Option Addr) (n c : Nat) : Tryz.prog.built 46 [(0, .agg r.cells.toArray), (13, .int .i64 (-1)), (1, .slice A n c)] = some (r.newC.cells (.slice A n c)).toArray := by kernel_rfl
/-- room for sixteen steps -/
def room16 : List Value := List.replicate 64 (.int .i64 0)
set_option maxRecDepth 100000 in
theorem mk_steps (u : World) : (Instr.makeSlice 43 (.int .i64 0) (.int .i64 16)).run Tryz.prog u = .ok (.slice (some ⟨u.heap.size, 0, none⟩) 0 16) (u.alloc (.cells room16.toArray 65)) := by kernel_rfl
theorem infoRegsC : (Tryz.prog.info? 24).map (·.size) = some 30 := by kernel_rfl
theorem op_build {P : Program} {o : Oper} {a : Act} {w : World} {K : Act → World → Prop} {Q : Exit → Act → World → Prop} {E : Prop} {b : Bool} (hw : b = true) (t : TypeId) (parts : Array (Nat × Operand)) (ho : o.op = .build t parts)
    (d : Option Tmp) (hd : o.dst = d) (cells : Array Value) (hf : P.built t (parts.map fun (i, x) => (i, a.eval x)).toList = some cells) (h : K (a.put d (.agg cells)) w) : if b = true then Oper.wp P o a w K Q else E := by
  subst hd
  rw [if_pos hw]
  unfold Oper.wp execOp
  simp only [ho, Sem.run_bind, run_build w t _ _ hf, Result.andThen_ok]
  exact h
theorem op_box {P : Program} {o : Oper} {a : Act} {w : World} {K : Act → World → Prop} {Q : Exit → Act → World → Prop} {E : Prop} {b : Bool} (hw : b = true) (t : TypeId) (x : Operand) (ho : o.op = .box t x)
    (d : Option Tmp) (hd : o.dst = d) (N : Nat) (hN : w.heap.size = N) (cells : Array Value) (hx : (a.eval x).cells = cells) (h : K (a.put d (.pointer (some ⟨N, 0, none⟩))) (w.alloc (.cells cells t))) : if b = true then Oper.wp P o a w K Q else E := by
  subst hd hN hx
  rw [if_pos hw]
  unfold Oper.wp execOp
  simp only [ho, Sem.run_bind, Instr.box, newVar, newRow, run_newObj_alloc, Sem.run_pure, Result.andThen_ok]
  exact h
theorem blk_range {u : World} {g : Nat} {t : TypeId} {cs : List Value} (h : Blk u g t cs) : u.rangeAt g 0 cs := fun j v hv => by rw [Nat.zero_add]; exact (h.cell j).trans hv
set_option maxRecDepth 100000 in
set_option maxHeartbeats 4000000 in
theorem cp_new (r : Rg) (w : World) : Calls Tryz.prog 10 #[.agg r.cells.toArray] w fun e w' => ∃ g sv, e = .returned (.pointer (some ⟨g, 0, none⟩)) ∧ CpAt w' g sv r.newC ∧ (w.heap.size ≤ g) ∧ (∀ b, sv.ownBlock = some b → w.heap.size ≤ b) ∧ Below w.heap.size w w' := by
  obtain ⟨cs, hcs⟩ : ∃ cs, cs = r.cells := ⟨_, rfl⟩
  have HI : Hid ((Tryz.prog.info? 24).map (·.size) = some cs.length) := by show _ = _; rw [infoRegsC, hcs]; rfl
  have HBU : Hid (∀ A n c, Tryz.prog.built 46 [(0, .agg cs.toArray), (13, .int .i64 (-1)), (1, .slice A n c)] = some (r.newC.cells (.slice A n c)).toArray) := by show ∀ A n c, _ = _; rw [hcs]; exact built_cpu r
  rw [← hcs]
  clear hcs
  go_enter Tryz.func10, Tryz.ntmps10
  go_wp2_with fail
  refine until_start 3 (fun u => Blk u w.heap.size 24 cs) (by kernel_rfl) ?_
  refine until_load (i := 0) (v := .agg cs.toArray) [2, 3] rfl (by kernel_rfl) (by kernel_rfl) (by kernel_rfl) (by kernel_rfl) (fun _ _ _ h => h) (Blk.new w _ _) (yieldsIf_load_mid (by rfl) 24 (.tmp 1) rfl w.heap.size 0 rfl cs _ (fun u hu => blk_range hu) Tryz.underlying24 rfl HI.out) ?_
  try simp only [Act.put, List.setIfInBounds_toArray, List.set_cons_zero, List.set_cons_succ]
  refine until_ready (rs := [1]) (by kernel_rfl) (by simp) ?_
  refine AllUntil.cons rfl (fun K hK => ?_) AllUntil.nil
  have hmk := fun u => mk_steps u
  go_simp
  refine hK.out _ _ (fun _ => ((Blk.new w 24 cs).alloc _).drew) ?_
  clear hK K
  refine until_ready (rs := [2]) (by kernel_rfl) (by simp) ?_
  refine AllUntil.cons rfl (fun K hK => ?_) AllUntil.nil
  refine op_build (by rfl) 46 #[(0, .tmp 3), (13, .const (.int .i64 (-1))), (1, .tmp 4)] rfl (some 5) rfl (r.newC.cells (.slice (some ⟨w.heap.size + 1, 0, none⟩) 0 16)).toArray (Eq.trans (congrArg _ (by simp; exact ⟨rfl, rfl, rfl⟩)) (HBU.out (some ⟨w.heap.size + 1, 0, none⟩) 0 16)) ?_
  refine hK.out _ _ (fun _ => ((Blk.new w 24 cs).alloc _).drew) ?_
  clear hK K
  try simp only [Act.put, List.setIfInBounds_toArray, List.set_cons_zero, List.set_cons_succ]
  refine until_ready (rs := [3]) (by kernel_rfl) (by simp) ?_
  refine AllUntil.cons rfl (fun K hK => ?_) AllUntil.nil
  refine op_box (by rfl) 46 (.tmp 5) rfl (some 6) rfl (w.heap.size + 2) (by simp) (r.newC.cells (.slice (some ⟨w.heap.size + 1, 0, none⟩) 0 16)).toArray rfl ?_
  refine hK.out _ _ (fun h => by simp at h) ?_
  clear hK K
  try simp only [Act.put, List.setIfInBounds_toArray, List.set_cons_zero, List.set_cons_succ]
  refine until_ready (rs := [4]) (by kernel_rfl) (by simp) ?_
  refine AllUntil.cons rfl (fun K hK => ?_) AllUntil.nil
  go_simp
  refine hK.out _ _ (fun h => by simp at h) ?_
  clear hK K
  try simp only [Act.put, List.setIfInBounds_toArray, List.set_cons_zero, List.set_cons_succ]
  refine until_done (by kernel_rfl) ?_ _
  go_wp2
  go_ret
  have hs : Blk ((w.alloc (.cells cs.toArray 24)).alloc (.cells room16.toArray 65)) (w.heap.size + 1) 65 room16 := blk_alloc2_new w _ _ _
  have hb := Blk.new ((w.alloc (.cells cs.toArray 24)).alloc (.cells room16.toArray 65)) 46 (r.newC.cells (.slice (some ⟨w.heap.size + 1, 0, none⟩) 0 16))
  have hsz : ((w.alloc (.cells cs.toArray 24)).alloc (.cells room16.toArray 65)).heap.size = w.heap.size + 2 := by simp
  rw [hsz] at hb
  refine ⟨w.heap.size + 2, .slice (some ⟨w.heap.size + 1, 0, none⟩) 0 16, rfl, ⟨hb.drew, rfl, .inr ⟨w.heap.size + 1, 16, room16.toArray, rfl, Nat.zero_le _, (hs.alloc _).drew, Nat.zero_le _, by decide, rfl, rfl⟩⟩, by omega, fun b hb => ?_, ?_⟩
  · injection hb with hb
    rw [← hb]
    exact Nat.le_succ _
  · exact (((((Below.refl _ w).alloc (Nat.le_refl _) _).alloc (by simp) _).alloc (by simp; omega) _).drew)
end Go.Proofs.YtbhpmnhlmeglcaaGreat
