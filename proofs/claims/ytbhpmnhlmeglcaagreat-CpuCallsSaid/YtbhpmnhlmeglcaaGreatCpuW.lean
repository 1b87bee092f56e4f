/- CpuNils: its body. -/
import Derived.Test.YtbhpmnhlmeglcaaGreatCpuV
import Derived.Deep.MidRow
import Derived.Laws.StructEq
import Derived.Deep.QuietTactic
import Derived.Lib.QuietBelow
namespace Go.Proofs.YtbhpmnhlmeglcaaGreat
set_option linter.unusedSimpArgs false
set_option linter.unusedVariables false
open Go.RowKit Go.Sort
def Gives (f : FuncId) (args : Array Value) (v : Value) : Prop := ∀ w : World, Calls Tryz.prog f args w fun e w' => e = .returned v ∧ Below w.heap.size w w'
theorem gives_same {f : FuncId} {args : Array Value} {v : Value} (h : ∀ w, Calls Tryz.prog f args w fun e w' => e = .returned v ∧ w' = w) : Gives f args v := fun w => (h w).mono fun e w' ⟨h1, h2⟩ => ⟨h1, h2 ▸ Below.refl _ _⟩
theorem Gives.q {f : FuncId} {args : Array Value} {v : Value} (h : Gives f args v) {w : World} {d : Nat} {os : Array Obj} : Calls Tryz.prog f args (grow (redrawn w d) os) fun e w'' => e = .returned v ∧ ∃ p : Regrown, w'' = grow (redrawn w p.d) p.os := Calls.regrown_of (h _)
theorem below_quiet (w W : World) (d : Nat) (os : Array Obj) (n : Nat) (hn : n ≤ W.heap.size) (h : Below n w W) : Below n w (grow (redrawn W d) os) := h.trans ((below_regrown W d os).mono hn)
theorem done_quiet {W : World} {g : Nat} {sv : Value} {c : Cp} (h : CpAt W g sv c) (hk : c.kind = -1) {d : Nat} {os : Array Obj} : Calls Tryz.prog 13 #[.pointer (some ⟨g, 0, none⟩)] (grow (redrawn W d) os) fun e w'' => e = .returned (.bool true) ∧ ∃ p : Regrown, w'' = grow (redrawn W p.d) p.os :=
  Calls.regrown_of ((cp_done g sv c _ (CpAt.below h (below_regrown W d os))).mono fun e w' ⟨h1, h2⟩ => ⟨by rw [h1, hk]; rfl, by rw [h2]; exact Below.refl _ _⟩)
theorem CpAt.range {w : World} {g : Nat} {sv : Value} {c : Cp} (h : CpAt w g sv c) : w.rangeAt g 0 c.r.cells := fun j v hv => by
  rw [Nat.zero_add]
  refine (h.blk.cell j).trans ?_
  have hj : j < c.r.cells.length := (List.getElem?_eq_some_iff.1 hv).1
  unfold Cp.cells
  rw [List.getElem?_append_left hj]
  exact hv
theorem range_quiet {W : World} {b o : Nat} {cs : List Value} (h : W.rangeAt b o cs) : ∀ w', (∃ p : Regrown, w' = grow (redrawn W p.d) p.os) → w'.rangeAt b o cs := by
  rintro _ ⟨p, rfl⟩ j v hv
  exact cell_regrown (h j v hv) p.d p.os
/-- a row is loaded, in a region that only reads -/
theorem quiet_load {P : Program} {o : Oper} {a : Act} {C : World → Prop} {K : Act → Prop} {b : Bool} {E : Prop} (hb : b = true) (ty : TypeId) (x : Operand) (ho : o.op = .load ty x) (g : Nat) (hx : a.eval x = .pointer (some ⟨g, 0, none⟩)) (cs : List Value) (d : TypeDesc) (hS : ∀ w, C w → w.rangeAt g 0 cs)
    (hu : P.underlying ty = some d) (hd : d.isRow = true) (hi : (P.info? ty).map (·.size) = some cs.length) (h : K (a.put o.dst (.agg cs.toArray))) : if b = true then o.quiet P a C K else E := by
  rw [if_pos hb]
  refine ⟨.agg cs.toArray, fun w hw => ?_, h⟩
  unfold Oper.quietAt execOp
  simp only [ho, hx, Instr.loadAt, Instr.sureAddr, Sem.run_bind, Sem.run_pure, Result.andThen_ok, run_loadVar_mid w g 0 ty cs d (hS w hw) hu hd hi]
  exact ⟨rfl, rfl⟩
/-- two values are compared -/
theorem quiet_bin {P : Program} {o : Oper} {a : Act} {C : World → Prop} {K : Act → Prop} {b : Bool} {E : Prop} (hb : b = true) (op : BinOp) (ty : TypeId) (x y : Operand) (ty' : TypeId) (ho : o.op = .binOp op ty x y ty') (v vx vy : Value) (hx : a.eval x = vx) (hy : a.eval y = vy)
    (hr : ∀ w, (do eqGuard op ty x y vx vy; binOp op ty vx vy : Sem Value).run P w = .ok v w) (h : K (a.put o.dst v)) : if b = true then o.quiet P a C K else E := by
  rw [if_pos hb]
  refine ⟨v, fun w hw => ?_, h⟩
  unfold Oper.quietAt execOp
  simp only [ho, hx, hy, Sem.run_bind, Sem.run_pure]
  have := hr w
  rw [Sem.run_bind] at this
  rw [this]
  exact ⟨rfl, rfl⟩
set_option maxRecDepth 100000 in
set_option maxHeartbeats 4000000 in
theorem eqg_regs (r : Rg) (u : World) : (do eqGuard .eql 24 (.tmp 56) (.tmp 58) (.agg r.cells.toArray) (.agg r.cells.toArray); binOp .eql 24 (.agg r.cells.toArray) (.agg r.cells.toArray) : Sem Value).run Tryz.prog u = .ok (.bool true) u := by
  simp [Rg.cells, go_sem]
set_option maxRecDepth 100000 in
set_option maxHeartbeats 8000000 in
theorem cpunils_body (r : Rg) (X : List Value) (w : World) : Calls Tryz.prog 6 #[.agg (r.cells ++ X).toArray] w fun e w' => e = .returned (.bool true) ∧ Below w.heap.size w w' := by
  obtain ⟨Z, hZ, hZl⟩ := flat_zero
  have HBu := Lib.hid hZ
  obtain ⟨cs, hcs⟩ : ∃ cs, cs = r.cells := ⟨_, rfl⟩
  have HCS := Lib.hid hcs
  have HCL : Hid (cs.length = 30) := by show _ = _; rw [hcs]; rfl
  have HI : Hid ((Tryz.prog.info? 24).map (·.size) = some cs.length) := by show _ = _; rw [HCL.out]; exact infoRegsC
  have HEQ : Hid (∀ u, (do eqGuard .eql 24 (.tmp 56) (.tmp 58) (.agg cs.toArray) (.agg cs.toArray); binOp .eql 24 (.agg cs.toArray) (.agg cs.toArray) : Sem Value).run Tryz.prog u = .ok (.bool true) u) := by show ∀ u, _ = _; rw [hcs]; exact eqg_regs r
  obtain ⟨C, hC⟩ : ∃ C, C = (cs ++ X).toArray := ⟨_, rfl⟩
  have HNW : Hid (∀ u, Calls Tryz.prog 10 #[.agg cs.toArray] u fun e w' => ∃ g sv, e = .returned (.pointer (some ⟨g, 0, none⟩)) ∧ CpAt w' g sv r.newC ∧ (u.heap.size ≤ g) ∧ (∀ b, sv.ownBlock = some b → u.heap.size ≤ b) ∧ Below u.heap.size u w') := by show ∀ u, Calls _ _ _ _ _; rw [hcs]; exact fun u => cp_new r u
  have HX0 : Hid ((w.alloc (.cells C 28)).rangeAt w.heap.size 0 cs) := Lib.hid (fun j v hv => by
    have hj : j < cs.length := (List.getElem?_eq_some_iff.1 hv).1
    rw [hC, Nat.zero_add]
    refine ((Blk.new w 28 (cs ++ X)).cell j).trans ?_
    rw [List.getElem?_append_left hj]
    exact hv)
  have HF0 := Lib.hid (fl_new Z hZl (w.alloc (.cells C 28)))
  rw [← hcs, ← hC]
  obtain ⟨h, hh⟩ : ∃ h, h = (w.alloc (.cells C 28)).heap.size := ⟨_, rfl⟩
  have HH := Lib.hid hh
  rw [← hh] at HF0
  obtain ⟨w1, hw1⟩ : ∃ w1, w1 = (w.alloc (.cells C 28)).alloc (.cells Z 37) := ⟨_, rfl⟩
  rw [← hw1] at HF0
  have HW1 := Lib.hid hw1
  have HB1 : Hid (Below w.heap.size w w1) := by show Below _ _ _; rw [hw1]; exact ((Below.refl _ w).alloc (Nat.le_refl _) _).alloc (by simp) _
  have HS1 : Hid (w.heap.size ≤ w1.heap.size) := Lib.hid HB1.out.size
  have HX1 : Hid (w1.rangeAt w.heap.size 0 cs) := by show World.rangeAt _ _ _ _; rw [hw1]; exact World.rangeAt_alloc HX0.out _
  clear hZ hZl hw1 hcs hC hh
  go_enter Tryz.func6, Tryz.ntmps6
  go_upto_region 3 with fail
  refine wp_region_list ?_
  refine wpList_buildTo rfl 37 #[] rfl (some 7) rfl Z (Eq.trans (congrArg _ (by simp)) HBu.out) ?_
  refine Great.wpList_boxTo rfl 37 (.tmp 7) rfl (some 8) rfl h HH.out.symm Z rfl ?_
  rw [← HW1.out]
  clear HW1
  go_upto_region 7 with (first
    | (refine wpList_load_mid rfl 24 (.tmp 15) rfl w.heap.size 0 rfl cs _ HX1.out Tryz.underlying24 rfl HI.out ?_)
    | (go_at_call 15; refine (nmi_nil _).mono ?_; rintro e w2 ⟨rfl, hww⟩; subst hww)
    | (go_at_call 16; refine (tick_nil h _).mono ?_; rintro e w2 ⟨rfl, hww⟩; subst hww)
    | (go_at_call 10
       refine (HNW.out _).mono ?_
       rintro e w4 ⟨g, sv, rfl, h4, h5, h6, h7⟩
       have H4 := Lib.hid h4; have H5 := Lib.hid h5; have H6 := Lib.hid h6; have H7 := Lib.hid h7
       clear h4 h5 h6 h7))
  have HG : Hid (w4.rangeAt g 0 cs) := by show World.rangeAt _ _ _ _; rw [HCS.out]; exact H4.out.range
  have HXR : Hid (w4.rangeAt w.heap.size 0 cs) := Lib.hid (fun j v hv => (H7.out.cell (World.block_lt_of_cell? _ _ (HX1.out j v hv))).trans (HX1.out j v hv))
  have f0 : ∀ d os, (grow (redrawn w4 d) os).cell? ⟨h, 65538, none⟩ = some (.int .u64 0) := fun d os => cell_regrown ((H7.out.cell (World.block_lt_of_cell? _ _ (HF0.out.tail 2 65538 rfl))).trans (HF0.out.tail 2 65538 rfl)) d os
  have G1 := Lib.hid (gives_same done_nil)
  have G2 := Lib.hid (gives_same copy_nil)
  have G3 := Lib.hid (gives_same (step_nilC h))
  have G4 := Lib.hid (gives_same (step_nilF (.pointer (some ⟨g, 0, none⟩))))
  have G5 : Hid (Gives 8 #[] (.bool true)) := Lib.hid lives12
  have GD : Hid (∀ d os, Calls Tryz.prog 13 #[.pointer (some ⟨g, 0, none⟩)] (grow (redrawn w4 d) os) fun e w'' => e = .returned (.bool true) ∧ ∃ p : Regrown, w'' = grow (redrawn w4 p.d) p.os) := Lib.hid (fun d os => done_quiet H4.out rfl)
  refine wp_region_quiet_below (by kernel_rfl) (by kernel_rfl) ?_
  repeat (first
    | (refine wpQuiet_step (fun K hK => ?_)
       refine quiet_load (by rfl) 24 (.tmp 55) rfl g rfl cs _ (range_quiet HG.out) Tryz.underlying24 rfl HI.out (hK _ ?_)
       clear hK K)
    | (refine wpQuiet_step (fun K hK => ?_)
       refine quiet_load (by rfl) 24 (.tmp 57) rfl w.heap.size rfl cs _ (range_quiet HXR.out) Tryz.underlying24 rfl HI.out (hK _ ?_)
       clear hK K)
    | (refine wpQuiet_step (fun K hK => ?_)
       refine quiet_bin (by rfl) .eql 24 (.tmp 56) (.tmp 58) 24 rfl (.bool true) (.agg cs.toArray) (.agg cs.toArray) rfl rfl HEQ.out (hK _ ?_)
       clear hK K)
    | quiet_step (first
      | (go_at_call_of 13 (Value.pointer none); exact G1.out.q)
      | (go_at_call 13; exact GD.out _ _)
      | (go_at_call 14; exact G2.out.q)
      | (go_at_call_of 11 (Value.pointer (some ⟨g, 0, none⟩)); exact G4.out.q)
      | (go_at_call 11; exact G3.out.q)
      | (go_at_call 8; exact G5.out.q)))
  refine wpQuiet_nil ?_
  intro _ hwq
  obtain ⟨⟨dq, osq⟩, hwr⟩ := hwq
  subst hwr
  go_wp2
  go_ret
  exact ⟨rfl, below_quiet _ _ _ _ _ (Nat.le_trans HS1.out H7.out.size) (HB1.out.trans (H7.out.mono HS1.out))⟩
end Go.Proofs.YtbhpmnhlmeglcaaGreat
