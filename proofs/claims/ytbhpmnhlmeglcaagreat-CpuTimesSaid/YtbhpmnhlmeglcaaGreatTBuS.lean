/- cpu: T-states one by one; ld a, n. -/
import Derived.Test.YtbhpmnhlmeglcaaGreatTBusZ
import Derived.Test.YtbhpmnhlmeglcaaGreatTBuR
namespace Go.Proofs.YtbhpmnhlmeglcaaGreat
set_option linter.unusedSimpArgs false
set_option linter.unusedVariables false
open Go.RowKit
/-- a T-state within a cycle -/
def Cp.at (c : Cp) (t : Int) : Cp := { c with wait := 0, held := false, t := t }
theorem ok_at {c : Cp} (h : c.Ok) (t : Int) : (c.at t).Ok := ⟨h.r, h.code, h.lo, h.hi, h.ea, h.out, h.addr, h.at0, h.at1, h.len⟩
theorem calm_at {c : Cp} (h : c.Calm) (t : Int) (ht : 0 ≤ t ∧ t ≤ 100) : (c.at t).Calm := ⟨ok_at h.ok t, rfl, h.nmi, ht, h.n0⟩
theorem tick_in (c : Cp) (f : Fl) (h1 : c.kind ≠ -1) (h4 : c.kind ≠ 4) (hne : c.t + 1 ≠ c.n) : TickTo c f (c.at (c.t + 1)) f := by
  left
  unfold Cp.inn Cp.adv
  rw [if_neg h1, if_neg h4]
  exact ⟨hne, rfl, rfl⟩
theorem tick_end (c c2 : Cp) (f f2 : Fl) (h1 : c.kind ≠ -1) (h4 : c.kind ≠ 4) (heq : c.t + 1 = c.n) (hf : FinTo (c.at (c.t + 1)) f c2 f2) : TickTo c f c2 f2 := by
  right
  unfold Cp.inn Cp.adv
  rw [if_neg h1, if_neg h4]
  exact ⟨heq, hf⟩
theorem tick_begin (c : Cp) (f : Fl) (h1 : c.kind = -1) : TickTo c f (c.begun.at 1) f := by
  left
  unfold Cp.inn Cp.adv
  rw [if_pos h1, if_neg (show ¬ (c.begun.kind = 4) from by show ¬ ((0 : Int) = 4); decide)]
  exact ⟨(by show (0 : Int) + 1 ≠ 4; decide), rfl, rfl⟩
def Fl.incs : Nat → Fl → Fl
  | 0, f => f
  | n + 1, f => (f.incs n).inc
theorem incs_line (f : Fl) : ∀ n, (f.incs n).line = f.line
  | 0 => rfl
  | n + 1 => incs_line f n
theorem incs_m (f : Fl) : ∀ n, (f.incs n).m = f.m
  | 0 => rfl
  | n + 1 => incs_m f n
theorem incs_succ (f : Fl) : ∀ n, f.inc.incs n = f.incs (n + 1)
  | 0 => rfl
  | n + 1 => by show (f.inc.incs n).inc = _; rw [incs_succ f n]; rfl
theorem incs_acts (f : Fl) : ∀ n, (f.incs n).acts = f.acts
  | 0 => rfl
  | n + 1 => incs_acts f n
theorem put_inc (f : Fl) (a : Nat) (v : Int) : (f.put a v).inc = f.inc.put a v := rfl
/-- the rest of a cycle of n T-states, all but its last done in so many -/
theorem run_cycle : ∀ (j k : Nat) (c c1 c2 : Cp) (f f1 f2 : Fl), c.Calm → f.line = false → c.kind ≠ -1 → c.kind ≠ 4 → c.t + j + 1 = c.n → FinTo (c.at c.n) (f.incs j) c1 f1 → c1.kind ≠ -1 → Run k c1 f1.inc c2 f2 → Run (j + 1 + k) c f c2 f2
  | 0, k, c, c1, c2, f, f1, f2, hc, hl, h1, h4, ht, hf, hk, hr => by
    have ht' : c.t + 1 = c.n := by omega
    rw [← ht'] at hf
    rw [show 0 + 1 + k = k + 1 by omega]
    exact Run.more k c c1 c2 f f1 f2 hc hl (tick_end c c1 f f1 h1 h4 ht' hf) hk hr
  | j + 1, k, c, c1, c2, f, f1, f2, hc, hl, h1, h4, ht, hf, hk, hr => by
    have ht0 := hc.t0
    have hn0 := hc.n0
    rw [show j + 1 + 1 + k = (j + 1 + k) + 1 by omega]
    refine Run.more _ c (c.at (c.t + 1)) c2 f f f2 hc hl (tick_in c f h1 h4 (by omega)) h1 ?_
    refine run_cycle j k (c.at (c.t + 1)) c1 c2 f.inc f1 f2 (calm_at hc _ (by omega)) hl h1 h4 (by show c.t + 1 + j + 1 = c.n; omega) ?_ hk hr
    rw [incs_succ]
    exact hf
theorem run_last : ∀ (j : Nat) (c c1 : Cp) (f f1 : Fl), c.Calm → f.line = false → c.kind ≠ -1 → c.kind ≠ 4 → c.t + j + 1 = c.n → FinTo (c.at c.n) (f.incs j) c1 f1 → c1.kind = -1 → Run (j + 1) c f c1 f1.inc
  | 0, c, c1, f, f1, hc, hl, h1, h4, ht, hf, hk => by
    have ht' : c.t + 1 = c.n := by omega
    rw [← ht'] at hf
    exact Run.last c c1 f f1 hc hl (tick_end c c1 f f1 h1 h4 ht' hf) hk
  | j + 1, c, c1, f, f1, hc, hl, h1, h4, ht, hf, hk => by
    have ht0 := hc.t0
    have hn0 := hc.n0
    refine Run.more _ c (c.at (c.t + 1)) c1 f f f1.inc hc hl (tick_in c f h1 h4 (by omega)) h1 ?_
    refine run_last j (c.at (c.t + 1)) c1 f.inc f1 (calm_at hc _ (by omega)) hl h1 h4 (by show c.t + 1 + j + 1 = c.n; omega) ?_ hk
    rw [incs_succ]
    exact hf
/-- the fetch of an instruction: four T-states -/
theorem run_fetch (k : Nat) (c c1 c2 : Cp) (f f1 f2 : Fl) (hc : c.Calm) (hl : f.line = false) (h1 : c.kind = -1) (hf : FinTo (c.begun.at 4) (f.incs 3) c1 f1) (hk : c1.kind ≠ -1) (hr : Run k c1 f1.inc c2 f2) : Run (4 + k) c f c2 f2 := by
  have hb := calm_begun hc
  rw [show 4 + k = (2 + 1 + k) + 1 by omega]
  refine Run.more _ c (c.begun.at 1) c2 f f f2 hc hl (tick_begin c f h1) (by show (0 : Int) ≠ -1; decide) ?_
  exact run_cycle 2 k (c.begun.at 1) c1 c2 f.inc f1 f2 (calm_at hb 1 (by omega)) hl (by show (0 : Int) ≠ -1; decide) (by show (0 : Int) ≠ 4; decide) (by show (1 : Int) + 2 + 1 = 4; decide) hf hk hr
end Go.Proofs.YtbhpmnhlmeglcaaGreat
