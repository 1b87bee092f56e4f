/- regions that only read: rows loaded, values compared; a processor behind them. -/
import Derived.Test.YtbhpmnhlmeglcaaGreatTBuQ
import Derived.Deep.MidRow
import Derived.Deep.QuietTactic
import Derived.Lib.QuietBelow
namespace Go.Proofs.YtbhpmnhlmeglcaaGreat
set_option linter.unusedSimpArgs false
set_option linter.unusedVariables false
open Go.RowKit Go.Sort
def Gives (f : FuncId) (args : Array Value) (v : Value) : Prop := ∀ w : World, Calls Tryz.prog f args w fun e w' => e = .returned v ∧ Below w.heap.size w w'
theorem gives_same {f : FuncId} {args : Array Value} {v : Value} (h : ∀ w, Calls Tryz.prog f args w fun e w' => e = .returned v ∧ w' = w) : Gives f args v := fun w => (h w).mono fun e w' ⟨h1, h2⟩ => ⟨h1, h2 ▸ Below.refl _ _⟩
theorem Gives.q {f : FuncId} {args : Array Value} {v : Value} (h : Gives f args v) {w : World} {d : Nat} {os : Array Obj} : Calls Tryz.prog f args (grow (redrawn w d) os) fun e w'' => e = .returned v ∧ ∃ p : Regrown, w'' = grow (redrawn w p.d) p.os := Calls.regrown_of (h _)
theorem below_quiet (w W : World) (d : Nat) (os : Array Obj) (n : Nat) (hn : n ≤ W.heap.size) (h : Below n w W) : Below n w (grow (redrawn W d) os) := h.trans ((below_regrown W d os).mono hn)
theorem done_quiet {W : World} {g : Nat} {sv : Value} {c : Cp} (h : CpAt W g sv c) (hk : c.kind = -1) {d : Nat} {os : Array Obj} : Calls Tryz.prog 13 #[.pointer (some ⟨g, 0, none⟩)] (grow (redrawn W d) os) fun e w'' => e = .returned (.bool true) ∧ ∃ p : Regrown, w'' = grow (redrawn W p.d) p.os :=
  Calls.regrown_of ((cp_done g sv c _ (CpAt.below h (below_regrown W d os))).mono fun e w' ⟨h1, h2⟩ => ⟨by rw [h1, hk]; rfl, by rw [h2]; exact Below.refl _ _⟩)
theorem CpAt.range {w : World} {g : Nat} {sv : Value} {c : Cp} (h : CpAt w g sv c) : w.rangeAt g 0 c.r.cells := fun j v hv => by
  rw [Nat.zero_add]
  refine (h.blk.cell j).trans ?_
  have hj : j < c.r.cells.length := (List.getElem?_eq_some_iff.1 hv).1
  unfold Cp.cells
  rw [List.getElem?_append_left hj]
  exact hv
theorem range_quiet {W : World} {b o : Nat} {cs : List Value} (h : W.rangeAt b o cs) : ∀ w', (∃ p : Regrown, w' = grow (redrawn W p.d) p.os) → w'.rangeAt b o cs := by
  rintro _ ⟨p, rfl⟩ j v hv
  exact cell_regrown (h j v hv) p.d p.os
/-- a row is loaded, in a region that only reads -/
theorem quiet_load {P : Program} {o : Oper} {a : Act} {C : World → Prop} {K : Act → Prop} {b : Bool} {E : Prop} (hb : b = true) (ty : TypeId) (x : Operand) (ho : o.op = .load ty x) (g : Nat) (hx : a.eval x = .pointer (some ⟨g, 0, none⟩)) (cs : List Value) (d : TypeDesc) (hS : ∀ w, C w → w.rangeAt g 0 cs)
    (hu : P.underlying ty = some d) (hd : d.isRow = true) (hi : (P.info? ty).map (·.size) = some cs.length) (h : K (a.put o.dst (.agg cs.toArray))) : if b = true then o.quiet P a C K else E := by
  rw [if_pos hb]
  refine ⟨.agg cs.toArray, fun w hw => ?_, h⟩
  unfold Oper.quietAt execOp
  simp only [ho, hx, Instr.loadAt, Instr.sureAddr, Sem.run_bind, Sem.run_pure, Result.andThen_ok, run_loadVar_mid w g 0 ty cs d (hS w hw) hu hd hi]
  exact ⟨rfl, rfl⟩
/-- two values are compared -/
theorem quiet_bin {P : Program} {o : Oper} {a : Act} {C : World → Prop} {K : Act → Prop} {b : Bool} {E : Prop} (hb : b = true) (op : BinOp) (ty : TypeId) (x y : Operand) (ty' : TypeId) (ho : o.op = .binOp op ty x y ty') (v vx vy : Value) (hx : a.eval x = vx) (hy : a.eval y = vy)
    (hr : ∀ w, (do eqGuard op ty x y vx vy; binOp op ty vx vy : Sem Value).run P w = .ok v w) (h : K (a.put o.dst v)) : if b = true then o.quiet P a C K else E := by
  rw [if_pos hb]
  refine ⟨v, fun w hw => ?_, h⟩
  unfold Oper.quietAt execOp
  simp only [ho, hx, hy, Sem.run_bind, Sem.run_pure]
  have := hr w
  rw [Sem.run_bind] at this
  rw [this]
  exact ⟨rfl, rfl⟩
theorem quiet_cell {W : World} {a : Addr} {v : Value} (h : W.cell? a = some v) : ∀ d os, (grow (redrawn W d) os).cell? a = some v := fun d os => cell_regrown h d os
theorem done_quietB {W : World} {g : Nat} {sv : Value} {c : Cp} (h : CpAt W g sv c) {d : Nat} {os : Array Obj} : Calls Tryz.prog 13 #[.pointer (some ⟨g, 0, none⟩)] (grow (redrawn W d) os) fun e w'' => e = .returned (.bool (c.kind == -1)) ∧ ∃ p : Regrown, w'' = grow (redrawn W p.d) p.os :=
  Calls.regrown_of ((cp_done g sv c _ (CpAt.below h (below_regrown W d os))).mono fun e w' ⟨h1, h2⟩ => ⟨h1, by rw [h2]; exact Below.refl _ _⟩)
end Go.Proofs.YtbhpmnhlmeglcaaGreat
