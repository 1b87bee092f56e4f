/- cpu: a call, in plain Lean. -/
import Derived.Test.YtbhpmnhlmeglcaaGreatCpuY
namespace Go.Proofs.YtbhpmnhlmeglcaaGreat
set_option linter.unusedSimpArgs false
set_option linter.unusedVariables false
open Go.RowKit
/-- a processor in the middle of a plain code that writes no flags -/
def mkS (r : Rg) (st : List Stp) (a code ea : Int) (ah : Bool) (lo hi out : Int) (nmi : Bool) (kd : Int) (po : Bool) (wh ad n t : Int) : Cp := ⟨r, st, a, code, 0, 0, ah, lo, hi, ea, out, false, nmi, kd, po, wh, ad, n, t, 0, false⟩
def L205 : List Stp := [(1, 0, 0, 3), (1, 0, 1, 3), (5, 0, 8, 0), (0, 9, 0, 1), (2, 5, 7, 3), (2, 5, 8, 3), (5, 0, 29, 0)]
def R0 (c : Cp) : Rg := { c.r with hold := false, r := c.r.r / 128 * 128 + (c.r.r + 1) % 128, pc := (c.r.pc + 1) % 65536, pre := 0 }
def P2 (c : Cp) : Int := ((c.r.pc + 1) % 65536 + 1) % 65536
def P3 (c : Cp) : Int := (P2 c + 1) % 65536
def S1 (c : Cp) : Int := (c.r.sp - 1) % 65536
def S2 (c : Cp) : Int := (S1 c - 1) % 65536
def E0 (c : Cp) : Int := c.r.pair 2 0
def J2 (c : Cp) : Cp := mkS (R0 c) L205 0 205 (E0 c) c.ahead c.lo c.hi c.out c.nmi 0 c.port c.what c.r.pc 4 4
def K3 (c : Cp) : Cp := mkS { R0 c with pc := P2 c } L205 1 205 (E0 c) c.ahead c.lo c.hi c.out c.nmi 1 false 0 ((c.r.pc + 1) % 65536) 3 0
def K4 (c : Cp) (lo : Int) : Cp := mkS { R0 c with pc := P2 c } L205 1 205 (E0 c) c.ahead lo c.hi c.out c.nmi 1 false 0 ((c.r.pc + 1) % 65536) 3 3
def K5 (c : Cp) (lo : Int) : Cp := mkS { R0 c with pc := P3 c } L205 2 205 (E0 c) c.ahead lo c.hi c.out c.nmi 1 false 1 (P2 c) 3 0
def K6 (c : Cp) (lo hi : Int) : Cp := mkS { R0 c with pc := P3 c } L205 2 205 (E0 c) c.ahead lo hi c.out c.nmi 1 false 1 (P2 c) 3 3
def K7 (c : Cp) (lo hi : Int) : Cp := mkS { R0 c with pc := P3 c, wz := hi * 256 + lo } L205 3 205 (E0 c) c.ahead lo hi c.out c.nmi 1 false 1 (P2 c) 3 3
def K8 (c : Cp) (lo hi : Int) : Cp := mkS { R0 c with pc := P3 c, wz := hi * 256 + lo } L205 4 205 (E0 c) c.ahead lo hi c.out c.nmi 4 false 0 (P2 c) 1 0
def K9 (c : Cp) (lo hi : Int) : Cp := mkS { R0 c with pc := P3 c, wz := hi * 256 + lo, sp := S1 c } L205 5 205 (E0 c) c.ahead lo hi (P3 c / 256) c.nmi 2 false 7 (S1 c) 3 0
def K10 (c : Cp) (lo hi : Int) : Cp := mkS { R0 c with pc := P3 c, wz := hi * 256 + lo, sp := S2 c } L205 6 205 (E0 c) c.ahead lo hi (P3 c % 256) c.nmi 2 false 8 (S2 c) 3 0
def K11 (c : Cp) (lo hi : Int) : Cp := mkS { R0 c with pc := hi * 256 + lo, wz := hi * 256 + lo, sp := S2 c } L205 7 205 (E0 c) c.ahead lo hi (P3 c % 256) c.nmi 2 false 8 (S2 c) 3 3
def K12 (c : Cp) (lo hi : Int) : Cp := mkS { R0 c with pc := hi * 256 + lo, wz := hi * 256 + lo, sp := S2 c, q := 0 } L205 7 205 (E0 c) c.ahead lo hi (P3 c % 256) c.nmi (-1) false 8 (S2 c) 3 3
theorem e2 (c : Cp) : K2 c 205 = J2 c := by
  have h : ∀ st, Mi.programS 0 0 205 = st → K2 c 205 = mkS (R0 c) st 0 205 (E0 c) c.ahead c.lo c.hi c.out c.nmi 0 c.port c.what c.r.pc 4 4 := by
    intro st h
    rw [← h]
    rfl
  exact h _ p205
theorem e3 (c : Cp) : ((J2 c).goto (1 : Nat)).cycle (1, 0, 0, 3) = K3 c := rfl
theorem e4 (c : Cp) (lo : Int) : ((K3 c).at 3).latch lo = K4 c lo := rfl
theorem e5 (c : Cp) (lo : Int) : ((K4 c lo).goto (2 : Nat)).cycle (1, 0, 1, 3) = K5 c lo := rfl
theorem e6 (c : Cp) (lo hi : Int) : ((K5 c lo).at 3).latch hi = K6 c lo hi := rfl
theorem e7 (c : Cp) (lo hi : Int) : ((K6 c lo hi).goto (3 : Nat)).nn = K7 c lo hi := rfl
theorem e8 (c : Cp) (lo hi : Int) : ((K7 c lo hi).goto (4 : Nat)).cycle (0, 9, 0, 1) = K8 c lo hi := rfl
theorem e9 (c : Cp) (lo hi : Int) : ((K8 c lo hi).waited.goto (5 : Nat)).cycle (2, 5, 7, 3) = K9 c lo hi := rfl
theorem e10 (c : Cp) (lo hi : Int) : (((K9 c lo hi).at 3).goto (6 : Nat)).cycle (2, 5, 8, 3) = K10 c lo hi := rfl
theorem e11 (c : Cp) (lo hi : Int) : (((K10 c lo hi).at 3).goto (7 : Nat)).jpWz = K11 c lo hi := rfl
theorem e12 (c : Cp) (lo hi : Int) : (K11 c lo hi).stop = K12 c lo hi := rfl
theorem ok_waited {c : Cp} (h : c.Ok) : c.waited.Ok := ⟨h.r, h.code, h.lo, h.hi, h.ea, h.out, h.addr, h.at0, h.at1, h.len⟩
set_option maxRecDepth 100000 in
set_option maxHeartbeats 4000000 in
theorem run_call (c : Cp) (f : Fl) (a : Nat) (lo hi : Int) (hc : c.Calm) (hkd : c.kind = -1) (hl : f.line = false) (hh : c.r.halt = false) (hp : c.r.pre = 0) (hah : c.ahead = false) (hpc : c.r.pc = a) (ha : a + 3 < 65536) (hlo : B8 lo) (hhi : B8 hi)
    (m0 : f.m.getD a 0 = 205) (m1 : f.m.getD (a + 1) 0 = lo) (m2 : f.m.getD (a + 2) 0 = hi) :
    ∃ f2, Run 17 c f (K12 c lo hi) f2 ∧ f2.line = false ∧ f2.m = (f.m.set (K9 c lo hi).addr.toNat (K9 c lo hi).out).set (K10 c lo hi).addr.toNat (K10 c lo hi).out := by
  have nm : c.nmi = false := hc.nmi
  have o2 : (J2 c).Ok := by rw [← e2]; exact ok_k2 hc.ok 205 ⟨by decide, by decide⟩ (by rw [p205]; decide)
  have g2 : ((J2 c).goto (1 : Nat)).Ok := ok_goto o2 1 (by show _ ≤ (7 : Nat); decide)
  have o3 : (K3 c).Ok := by rw [← e3]; exact ok_cycle g2 _
  have c3 : (K3 c).Calm := by rw [← e3]; exact calm_cycle g2 nm _ ⟨by decide, by decide⟩
  have o4 : (K4 c lo).Ok := by rw [← e4]; exact ok_latch (ok_at o3 3) lo hlo
  have g4 : ((K4 c lo).goto (2 : Nat)).Ok := ok_goto o4 2 (by show _ ≤ (7 : Nat); decide)
  have o5 : (K5 c lo).Ok := by rw [← e5]; exact ok_cycle g4 _
  have c5 : (K5 c lo).Calm := by rw [← e5]; exact calm_cycle g4 nm _ ⟨by decide, by decide⟩
  have o6 : (K6 c lo hi).Ok := by rw [← e6]; exact ok_latch (ok_at o5 3) hi hhi
  have g6 : ((K6 c lo hi).goto (3 : Nat)).Ok := ok_goto o6 3 (by show _ ≤ (7 : Nat); decide)
  have w7 := workOk_nn _ g6
  rw [e7] at w7
  have o7 : (K7 c lo hi).Ok := w7.1
  have g7 : ((K7 c lo hi).goto (4 : Nat)).Ok := ok_goto o7 4 (by show _ ≤ (7 : Nat); decide)
  have o8 : (K8 c lo hi).Ok := by rw [← e8]; exact ok_cycle g7 _
  have c8 : (K8 c lo hi).Calm := by rw [← e8]; exact calm_cycle g7 nm _ ⟨by decide, by decide⟩
  have o8w : (K8 c lo hi).waited.Ok := ok_waited o8
  have g8 : ((K8 c lo hi).waited.goto (5 : Nat)).Ok := ok_goto o8w 5 (by show _ ≤ (7 : Nat); decide)
  have o9 : (K9 c lo hi).Ok := by rw [← e9]; exact ok_cycle g8 _
  have c9 : (K9 c lo hi).Calm := by rw [← e9]; exact calm_cycle g8 nm _ ⟨by decide, by decide⟩
  have o9a : ((K9 c lo hi).at 3).Ok := ok_at o9 3
  have g9 : (((K9 c lo hi).at 3).goto (6 : Nat)).Ok := ok_goto o9a 6 (by show _ ≤ (7 : Nat); decide)
  have o10 : (K10 c lo hi).Ok := by rw [← e10]; exact ok_cycle g9 _
  have c10 : (K10 c lo hi).Calm := by rw [← e10]; exact calm_cycle g9 nm _ ⟨by decide, by decide⟩
  have o10a : ((K10 c lo hi).at 3).Ok := ok_at o10 3
  have g10 : (((K10 c lo hi).at 3).goto (7 : Nat)).Ok := ok_goto o10a 7 (by show _ ≤ (7 : Nat); decide)
  have w11 := workOk_jpWz _ g10
  rw [e11] at w11
  have t1 : NextTo (J2 c) (K3 c) := by rw [← e3]; exact next_cycle o2 rfl 0 rfl 1 0 0 3 rfl (by decide) (by decide) (by intro h; omega)
  have t2 : NextTo (K4 c lo) (K5 c lo) := by rw [← e5]; exact next_cycle o4 rfl 1 rfl 1 0 1 3 rfl (by decide) (by decide) (by intro h; omega)
  have t3 : NextTo (K6 c lo hi) (K8 c lo hi) := ⟨o6, .inr ⟨rfl, 2, NextN.work 1 _ (K7 c lo hi) _ 2 0 8 0 rfl rfl w7 (by rw [← e8]; exact NextN.cycle 0 (K7 c lo hi) 3 0 9 0 1 rfl rfl (by decide) (by decide) (by intro h; omega))⟩⟩
  have t4 : NextTo (K8 c lo hi).waited (K9 c lo hi) := by rw [← e9]; exact next_cycle o8w rfl 4 rfl 2 5 7 3 rfl (by decide) (by decide) (by intro _; unfold byteK; omega)
  have t5 : NextTo ((K9 c lo hi).at 3) (K10 c lo hi) := by rw [← e10]; exact next_cycle o9a rfl 5 rfl 2 5 8 3 rfl (by decide) (by decide) (by intro _; unfold byteK; omega)
  have t6 : NextTo ((K10 c lo hi).at 3) (K12 c lo hi) := ⟨o10a, .inr ⟨rfl, 2, NextN.work 1 _ (K11 c lo hi) _ 6 0 29 0 rfl rfl w11 (by rw [← e12]; exact NextN.stop 0 (K11 c lo hi) (by show ((7 : Nat) : Int) ≤ ((7 : Nat) : Int); decide) hah)⟩⟩
  have f1 : FinTo (c.begun.at 4) (f.incs 3) (K3 c) (f.incs 3) := fin_code c (K3 c) (f.incs 3) 205 a hc ⟨by decide, by decide⟩ hh hp hpc (by rw [incs_m]; exact m0) (by decide) (by rw [e2]; exact t1) (by rw [e2]; show (0 : Int) ≠ -1; decide)
  have f2 : ∀ F : Fl, F.m = f.m → FinTo ((K3 c).at 3) F (K5 c lo) F := fun F hF => by
    refine FinTo.read _ (K5 c lo) F rfl ?_
    have e : ((K3 c).at 3).addr.toNat = a + 1 := by show ((c.r.pc + 1) % 65536).toNat = a + 1; rw [hpc]; omega
    rw [e, hF, m1, e4]
    exact t2
  have f3 : ∀ F : Fl, F.m = f.m → FinTo ((K5 c lo).at 3) F (K8 c lo hi) F := fun F hF => by
    refine FinTo.read _ (K8 c lo hi) F rfl ?_
    have e : ((K5 c lo).at 3).addr.toNat = a + 2 := by show (((c.r.pc + 1) % 65536 + 1) % 65536).toNat = a + 2; rw [hpc]; omega
    rw [e, hF, m2, e6]
    exact t3
  have f4 : ∀ F : Fl, FinTo (K8 c lo hi).waited F (K9 c lo hi) F := fun F => FinTo.idle _ _ F (.inl rfl) t4
  have f5 : ∀ F : Fl, FinTo ((K9 c lo hi).at 3) F (K10 c lo hi) (F.put (K9 c lo hi).addr.toNat (K9 c lo hi).out) := fun F => FinTo.write _ _ F rfl t5
  have f6 : ∀ F : Fl, FinTo ((K10 c lo hi).at 3) F (K12 c lo hi) (F.put (K10 c lo hi).addr.toNat (K10 c lo hi).out) := fun F => FinTo.write _ _ F rfl t6
  obtain ⟨F1, hF1⟩ : ∃ F, F = f.incs 4 := ⟨_, rfl⟩
  have l1 : F1.line = false ∧ F1.m = f.m := by rw [hF1]; exact ⟨by rw [incs_line]; exact hl, incs_m f 4⟩
  obtain ⟨F2, hF2⟩ : ∃ F, F = F1.incs 3 := ⟨_, rfl⟩
  have l2 : F2.line = false ∧ F2.m = f.m := by rw [hF2]; exact ⟨by rw [incs_line]; exact l1.1, by rw [incs_m]; exact l1.2⟩
  obtain ⟨F3, hF3⟩ : ∃ F, F = F2.incs 3 := ⟨_, rfl⟩
  have l3 : F3.line = false ∧ F3.m = f.m := by rw [hF3]; exact ⟨by rw [incs_line]; exact l2.1, by rw [incs_m]; exact l2.2⟩
  obtain ⟨F4, hF4⟩ : ∃ F, F = F3.inc := ⟨_, rfl⟩
  have l4 : F4.line = false ∧ F4.m = f.m := by rw [hF4]; exact l3
  obtain ⟨F5, hF5⟩ : ∃ F, F = ((F4.incs 2).put (K9 c lo hi).addr.toNat (K9 c lo hi).out).inc := ⟨_, rfl⟩
  have l5 : F5.line = false ∧ F5.m = f.m.set (K9 c lo hi).addr.toNat (K9 c lo hi).out := by rw [hF5]; exact ⟨by show (F4.incs 2).line = false; rw [incs_line]; exact l4.1, by show (F4.incs 2).m.set _ _ = _; rw [incs_m, l4.2]⟩
  have r5 : Run 3 (K10 c lo hi) F5 (K12 c lo hi) ((F5.incs 2).put (K10 c lo hi).addr.toNat (K10 c lo hi).out).inc := run_last 2 _ _ F5 _ c10 l5.1 (by show (2 : Int) ≠ -1; decide) (by show (2 : Int) ≠ 4; decide) rfl (f6 _) rfl
  have r4 : Run 6 (K9 c lo hi) F4 (K12 c lo hi) _ := run_cycle 2 3 _ (K10 c lo hi) _ F4 _ _ c9 l4.1 (by show (2 : Int) ≠ -1; decide) (by show (2 : Int) ≠ 4; decide) rfl (f5 _) (by show (2 : Int) ≠ -1; decide) (by rw [← hF5]; exact r5)
  have r3 : Run 7 (K8 c lo hi) F3 (K12 c lo hi) _ := run_wait1 6 _ (K9 c lo hi) _ F3 F3 _ c8 l3.1 rfl rfl (f4 F3) (by show (2 : Int) ≠ -1; decide) (by rw [← hF4]; exact r4)
  have r2 : Run 10 (K5 c lo) F2 (K12 c lo hi) _ := run_cycle 2 7 _ (K8 c lo hi) _ F2 (F2.incs 2) _ c5 l2.1 (by show (1 : Int) ≠ -1; decide) (by show (1 : Int) ≠ 4; decide) rfl (f3 _ (by rw [incs_m]; exact l2.2)) (by show (4 : Int) ≠ -1; decide) (by rw [show (F2.incs 2).inc = F3 from hF3.symm]; exact r3)
  have r1 : Run 13 (K3 c) F1 (K12 c lo hi) _ := run_cycle 2 10 _ (K5 c lo) _ F1 (F1.incs 2) _ c3 l1.1 (by show (1 : Int) ≠ -1; decide) (by show (1 : Int) ≠ 4; decide) rfl (f2 _ (by rw [incs_m]; exact l1.2)) (by show (1 : Int) ≠ -1; decide) (by rw [show (F1.incs 2).inc = F2 from hF2.symm]; exact r2)
  refine ⟨_, run_fetch 13 c (K3 c) _ f (f.incs 3) _ hc hl hkd f1 (by show (1 : Int) ≠ -1; decide) (by rw [show (f.incs 3).inc = F1 from hF1.symm]; exact r1), ?_, ?_⟩
  · show (F5.incs 2).line = false
    rw [incs_line]; exact l5.1
  · show (F5.incs 2).m.set _ _ = _
    rw [incs_m, l5.2]
theorem k12_calm {c : Cp} (lo hi : Int) : (K12 c lo hi).kind = -1 ∧ (K12 c lo hi).ahead = c.ahead ∧ (K12 c lo hi).nmi = c.nmi ∧ (K12 c lo hi).held = false := ⟨rfl, rfl, rfl, rfl⟩
end Go.Proofs.YtbhpmnhlmeglcaaGreat
