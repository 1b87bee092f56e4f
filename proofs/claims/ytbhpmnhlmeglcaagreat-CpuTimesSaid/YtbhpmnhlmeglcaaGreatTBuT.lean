/- cpu: the chapter's example, in plain Lean. -/
import Derived.Test.YtbhpmnhlmeglcaaGreatTBuS
import Derived.Test.YtbhpmnhlmeglcaaGreatTBuQ
namespace Go.Proofs.YtbhpmnhlmeglcaaGreat
set_option linter.unusedSimpArgs false
set_option linter.unusedVariables false
open Go.RowKit
def chk8 (x : Int) : Bool := decide (0 ≤ x) && decide (x ≤ 255)
def chk16 (x : Int) : Bool := decide (0 ≤ x) && decide (x ≤ 65535)
theorem chk8_of {x : Int} (h : chk8 x = true) : B8 x := by
  unfold chk8 at h
  rw [Bool.and_eq_true, decide_eq_true_iff, decide_eq_true_iff] at h
  exact h
theorem chk16_of {x : Int} (h : chk16 x = true) : B16 x := by
  unfold chk16 at h
  rw [Bool.and_eq_true, decide_eq_true_iff, decide_eq_true_iff] at h
  exact h
def Rg.chk (r : Rg) : Bool := [r.a, r.f, r.b, r.c, r.d, r.e, r.h, r.l, r.a2, r.f2, r.b2, r.c2, r.d2, r.e2, r.h2, r.l2, r.i, r.r, r.q, r.im, r.pre].all chk8 && [r.ix, r.iy, r.sp, r.pc, r.wz].all chk16
theorem ok_chkR {r : Rg} (h : r.chk = true) : r.Ok := by
  unfold Rg.chk at h
  rw [Bool.and_eq_true, List.all_eq_true, List.all_eq_true] at h
  obtain ⟨h8, h16⟩ := h
  constructor
  all_goals first
    | exact chk8_of (h8 _ (by simp))
    | exact chk16_of (h16 _ (by simp))
def Cp.chk (c : Cp) : Bool := c.r.chk && ([c.code, c.lo, c.hi, c.out].all chk8 && ([c.ea, c.addr].all chk16 && (decide (0 ≤ c.at_) && (decide (c.at_ ≤ c.steps.length) && decide (c.steps.length ≤ 64)))))
theorem ok_chk {c : Cp} (h : c.chk = true) : c.Ok := by
  unfold Cp.chk at h
  simp only [Bool.and_eq_true, List.all_eq_true, decide_eq_true_iff] at h
  obtain ⟨hr, h8, h16, h1, h2, h3⟩ := h
  exact ⟨ok_chkR hr, chk8_of (h8 _ (by simp)), chk8_of (h8 _ (by simp)), chk8_of (h8 _ (by simp)), chk16_of (h16 _ (by simp)), chk8_of (h8 _ (by simp)), chk16_of (h16 _ (by simp)), h1, h2, h3⟩
def rz : Rg := ⟨0, 0, 0, 0, 0, 0, 0, 0, 0, 0, 0, 0, 0, 0, 0, 0, 0, 0, 0, 0, 0, 0, 0, 0, false, false, false, false, 0, 0⟩
/-- the example's stations -/
def L1 : Cp := rz.newC.begun.at 4
def L2 : Cp := L1.inc0.program 0 0 62
def L3 : Cp := (L2.goto 1).cycle (1, 0, 0, 3)
def L4 : Cp := (L3.at 3).latch 5
def L5 : Cp := (L4.goto 2).ldReg
def L6 : Cp := L5.stop
theorem l2_steps : L2.steps = [(1, 0, 0, 3), (5, 0, 17, 0)] := by decide +kernel
theorem l4_steps : L4.steps = [(1, 0, 0, 3), (5, 0, 17, 0)] := by decide +kernel
theorem l5_steps : L5.steps.length = 2 := by decide +kernel
theorem lives_run (f : Fl) (hl : f.line = false) (h0 : f.m.getD 0 0 = 62) (h1 : f.m.getD 1 0 = 5) : Run 7 rz.newC f L6 ((f.incs 4).incs 2).inc := by
  have okN : rz.newC.Ok := ok_chk (by decide +kernel)
  have ok1 : L1.Ok := ok_chk (by decide +kernel)
  have ok2 : L2.Ok := ok_chk (by decide +kernel)
  have ok3 : L3.Ok := ok_chk (by decide +kernel)
  have ok4 : L4.Ok := ok_chk (by decide +kernel)
  have ok4g : (L4.goto 2).Ok := ok_chk (by decide +kernel)
  have hfet : FetchTo 62 L1 L2 := fun g sv w h => cp_fetchPlain g sv L1 62 w h ok1 ⟨by decide, by decide⟩ (by decide +kernel) (by decide +kernel) (by decide)
  have hn1 : NextTo L2 L3 := ⟨ok2, .inr ⟨by decide +kernel, 1, NextN.cycle 0 L2 0 1 0 0 3 (by decide +kernel) (by rw [l2_steps]; rfl) (by decide) (by decide) (by intro h; omega)⟩⟩
  have hn2 : NextTo L4 L6 := ⟨ok4, .inr ⟨by decide +kernel, 2, NextN.work 1 L4 L5 L6 1 0 17 0 (by decide +kernel) (by rw [l4_steps]; rfl) (workOk_ldReg _ ok4g) (NextN.stop 0 L5 (by rw [l5_steps]; decide +kernel) (by decide +kernel))⟩⟩
  have fin1 : FinTo L1 (f.incs 3) L3 (f.incs 3) := by
    refine FinTo.fetch L1 L2 L3 (f.incs 3) (by decide +kernel) ?_ (.inr ⟨by decide +kernel, hn1⟩)
    rw [incs_m, show L1.addr.toNat = 0 from by decide +kernel, h0]
    exact hfet
  have fin2 : FinTo (L3.at L3.n) ((f.incs 4).incs 2) L6 ((f.incs 4).incs 2) := by
    refine FinTo.read _ L6 _ (by decide +kernel) ?_
    rw [incs_m, incs_m, show (L3.at L3.n).addr.toNat = 1 from by decide +kernel, h1, show L3.n = 3 from by decide +kernel]
    exact hn2
  refine run_fetch 3 rz.newC L3 L6 f (f.incs 3) _ ⟨okN, rfl, rfl, by decide +kernel, by decide +kernel⟩ hl rfl fin1 (by decide +kernel) ?_
  exact run_last 2 L3 L6 (f.incs 4) _ ⟨ok3, by decide +kernel, by decide +kernel, by decide +kernel, by decide +kernel⟩ (by rw [incs_line]; exact hl) (by decide +kernel) (by decide +kernel) (by decide +kernel) fin2 (by decide +kernel)
theorem l6_a : L6.r.a = 5 := by decide +kernel
theorem l6_pc : L6.r.pc = 2 := by decide +kernel
end Go.Proofs.YtbhpmnhlmeglcaaGreat
