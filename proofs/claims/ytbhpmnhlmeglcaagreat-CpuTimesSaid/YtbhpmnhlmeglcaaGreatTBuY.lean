/- cpu: a call, in plain Lean: its stations. -/
import Derived.Test.YtbhpmnhlmeglcaaGreatTBuX
import Derived.Test.YtbhpmnhlmeglcaaGreatTBuS
namespace Go.Proofs.YtbhpmnhlmeglcaaGreat
set_option linter.unusedSimpArgs false
set_option linter.unusedVariables false
open Go.RowKit
theorem place_b16 {c : Cp} (h : c.Ok) (p : Int) : B16 (c.placeV p) := by
  obtain ⟨i0, i1⟩ := h.r.i; obtain ⟨r0, r1⟩ := h.r.r'
  unfold Cp.placeV
  repeat' split
  all_goals first
    | exact h.r.pc
    | exact h.ea
    | exact pair_b16 h.r _ _
    | exact h.r.sp
    | exact h.r.wz
    | exact h.addr
    | exact ⟨by omega, by omega⟩
theorem b8_div {x : Int} (h : B16 x) : B8 (x / 256) := by obtain ⟨a, b⟩ := h; exact ⟨by omega, by omega⟩
theorem b8_mod (x : Int) : B8 (x % 256) := ⟨by omega, by omega⟩
theorem byte_b8 {r : Rg} (h : r.Ok) (k ix : Int) : B8 (r.byte k ix) := by
  unfold Rg.byte
  repeat' split
  all_goals first
    | exact h.b | exact h.c | exact h.d | exact h.e | exact h.h | exact h.l | exact h.a
    | exact b8_div h.ix | exact b8_div h.iy | exact b8_mod _ | exact ⟨by decide, by decide⟩
theorem ite_b8 {p : Prop} [Decidable p] {a b : Int} (ha : B8 a) (hb : B8 b) : B8 (if p then a else b) := by split <;> assumption
theorem byteV_b8 {c : Cp} (h : c.Ok) (k : Int) : B8 (c.byteV k) :=
  ite_b8 h.lo (ite_b8 h.hi (ite_b8 h.r.a (ite_b8 (b8_div (pair_b16 h.r _ _)) (ite_b8 (b8_mod _) (ite_b8 (byte_b8 h.r _ _) (ite_b8 (b8_div h.r.pc) (ite_b8 (b8_mod _) (ite_b8 (b8_div (pair_b16 h.r _ _)) (ite_b8 (b8_mod _) (ite_b8 (b8_div (pushed_b16 h)) (ite_b8 (b8_mod _) (byte_b8 h.r _ _))))))))))))
theorem ok_cycle {c : Cp} (h : c.Ok) (s : Stp) : (c.cycle s).Ok := by
  have ht := ok_told (ok_place h s.2.1) s.2.2.1 (s.1 == 3)
  have hp := place_b16 h s.2.1
  unfold Cp.cycle
  simp only []
  repeat' split
  all_goals first
    | exact ⟨ht.r, ht.code, ht.lo, ht.hi, ht.ea, ht.out, hp, ht.at0, ht.at1, ht.len⟩
    | exact ⟨ht.r, ht.code, ht.lo, ht.hi, ht.ea, byteV_b8 ht _, hp, ht.at0, ht.at1, ht.len⟩
theorem nmi_cycle (c : Cp) (s : Stp) : (c.cycle s).nmi = c.nmi := by
  unfold Cp.cycle Cp.placeC
  simp only []
  repeat' split
  all_goals rfl
theorem held_cycle (c : Cp) (s : Stp) : (c.cycle s).held = false := by
  unfold Cp.cycle
  simp only []
  repeat' split
  all_goals rfl
theorem t_cycle (c : Cp) (s : Stp) : (c.cycle s).t = 0 ∧ (c.cycle s).n = s.2.2.2 := by
  unfold Cp.cycle
  simp only []
  repeat' split
  all_goals exact ⟨rfl, rfl⟩
theorem calm_cycle {c : Cp} (h : c.Ok) (hn : c.nmi = false) (s : Stp) (hs : 0 ≤ s.2.2.2 ∧ s.2.2.2 ≤ 100) : (c.cycle s).Calm :=
  ⟨ok_cycle h s, held_cycle c s, by rw [nmi_cycle]; exact hn, by rw [(t_cycle c s).1]; exact ⟨by decide, by decide⟩, by rw [(t_cycle c s).2]; exact hs⟩
theorem ok_latch {c : Cp} (h : c.Ok) (v : Int) (hv : B8 v) : (c.latch v).Ok := by
  unfold Cp.latch
  split
  · exact ⟨h.r, h.code, h.lo, hv, h.ea, h.out, h.addr, h.at0, h.at1, h.len⟩
  · exact ⟨h.r, h.code, hv, h.hi, h.ea, h.out, h.addr, h.at0, h.at1, h.len⟩
theorem ok_program {c : Cp} (h : c.Ok) (set ix code : Int) (hk : B8 code) (hl : (Mi.programS set ix code).length ≤ 64) : (c.program set ix code).Ok :=
  ⟨h.r, hk, h.lo, h.hi, (by show B16 (if ix = 0 then c.r.pair 2 0 else c.ea); split; exact pair_b16 h.r _ _; exact h.ea), h.out, h.addr, Int.le_refl _, Int.natCast_nonneg _, hl⟩
theorem ok_inc0c {c : Cp} (h : c.Ok) : c.inc0.Ok := ⟨ok_inc0 h, h.code, h.lo, h.hi, h.ea, h.out, h.addr, h.at0, h.at1, h.len⟩
/-- the next cycle -/
theorem next_cycle {c : Cp} (ho : c.Ok) (hs : c.second = 0) (i : Nat) (hi : c.at_ = i) (kd at_ wh n : Int) (hst : c.steps[i]? = some (kd, at_, wh, n)) (hk : 0 ≤ kd ∧ kd ≤ 4) (ha : 0 ≤ at_ ∧ at_ ≤ 9) (hb : kd = 2 ∨ kd = 4 → byteK wh) : NextTo c ((c.goto (i + 1 : Nat)).cycle (kd, at_, wh, n)) :=
  ⟨ho, .inr ⟨hs, 1, NextN.cycle 0 c i kd at_ wh n hi hst hk ha hb⟩⟩
/-- a wait of one T-state -/
def Cp.waited (c : Cp) : Cp := { c with wait := 0, held := false, t := 0, n := c.n - 1 }
theorem run_wait1 (k : Nat) (c c1 c2 : Cp) (f f1 f2 : Fl) (hc : c.Calm) (hl : f.line = false) (h4 : c.kind = 4) (hn : c.n = 1) (hf : FinTo c.waited f c1 f1) (hk : c1.kind ≠ -1) (hr : Run k c1 f1.inc c2 f2) : Run (k + 1) c f c2 f2 := by
  refine Run.more k c c1 c2 f f1 f2 hc hl ?_ hk hr
  right
  have e : c.inn = c := by unfold Cp.inn; rw [if_neg (by rw [h4]; decide)]
  have e2 : c.adv = c.waited := by unfold Cp.adv; rw [if_pos h4]; rfl
  rw [e, e2]
  exact ⟨by show (0 : Int) = c.n - 1; omega, hf⟩
theorem p205 : Mi.programS 0 0 205 = [(1, 0, 0, 3), (1, 0, 1, 3), (5, 0, 8, 0), (0, 9, 0, 1), (2, 5, 7, 3), (2, 5, 8, 3), (5, 0, 29, 0)] := by decide +kernel
theorem p201 : Mi.programS 0 0 201 = [(1, 4, 0, 3), (1, 4, 1, 3), (5, 0, 24, 0)] := by decide +kernel
def K1 (c : Cp) : Cp := c.begun.at 4
def K2 (c : Cp) (code : Int) : Cp := (K1 c).inc0.program 0 0 code
/-- an instruction's code comes in -/
theorem fin_code (c c3 : Cp) (f : Fl) (code : Int) (a : Nat) (hc : c.Calm) (hk : B8 code) (hh : c.r.halt = false) (hp : c.r.pre = 0) (hpc : c.r.pc = a) (hm : f.m.getD a 0 = code) (h4 : code ≠ 221 ∧ code ≠ 253 ∧ code ≠ 237 ∧ code ≠ 203) (hn : NextTo (K2 c code) c3) (hkk : (K2 c code).kind ≠ -1) : FinTo (K1 c) f c3 f := by
  refine FinTo.fetch (K1 c) (K2 c code) c3 f rfl ?_ (.inr ⟨hkk, hn⟩)
  have e : (K1 c).addr.toNat = a := by show c.r.pc.toNat = a; rw [hpc]; rfl
  rw [e, hm]
  intro g sv w h
  have ho : (K1 c).Ok := ok_at (ok_begun hc.ok) 4
  have := cp_fetchPlain g sv (K1 c) code w h ho hk hh rfl h4
  rw [show (K1 c).r.pre = 0 from hp] at this
  exact this
theorem ok_k2 {c : Cp} (h : c.Ok) (code : Int) (hk : B8 code) (hl : (Mi.programS 0 0 code).length ≤ 64) : (K2 c code).Ok := ok_program (ok_inc0c (ok_at (ok_begun h) 4)) 0 0 code hk hl
end Go.Proofs.YtbhpmnhlmeglcaaGreat
