/- cpu: the way back from a call, in plain Lean. -/
import Derived.Test.YtbhpmnhlmeglcaaGreatCpuZ
import Derived.Test.YtbhpmnhlmeglcaaGreatCpuQ
namespace Go.Proofs.YtbhpmnhlmeglcaaGreat
set_option linter.unusedSimpArgs false
set_option linter.unusedVariables false
open Go.RowKit
def L201 : List Stp := [(1, 4, 0, 3), (1, 4, 1, 3), (5, 0, 24, 0)]
def U1 (c : Cp) : Int := (c.r.sp + 1) % 65536
def U2 (c : Cp) : Int := (U1 c + 1) % 65536
def M2 (c : Cp) : Cp := mkS (R0 c) L201 0 201 (E0 c) c.ahead c.lo c.hi c.out c.nmi 0 c.port c.what c.r.pc 4 4
def M3 (c : Cp) : Cp := mkS { R0 c with sp := U1 c } L201 1 201 (E0 c) c.ahead c.lo c.hi c.out c.nmi 1 false 0 c.r.sp 3 0
def M4 (c : Cp) (lo : Int) : Cp := mkS { R0 c with sp := U1 c } L201 1 201 (E0 c) c.ahead lo c.hi c.out c.nmi 1 false 0 c.r.sp 3 3
def M5 (c : Cp) (lo : Int) : Cp := mkS { R0 c with sp := U2 c } L201 2 201 (E0 c) c.ahead lo c.hi c.out c.nmi 1 false 1 (U1 c) 3 0
def M6 (c : Cp) (lo hi : Int) : Cp := mkS { R0 c with sp := U2 c } L201 2 201 (E0 c) c.ahead lo hi c.out c.nmi 1 false 1 (U1 c) 3 3
def M7 (c : Cp) (lo hi : Int) : Cp := mkS { R0 c with sp := U2 c, pc := hi * 256 + lo, wz := hi * 256 + lo } L201 3 201 (E0 c) c.ahead lo hi c.out c.nmi 1 false 1 (U1 c) 3 3
def M8 (c : Cp) (lo hi : Int) : Cp := mkS { R0 c with sp := U2 c, pc := hi * 256 + lo, wz := hi * 256 + lo, q := 0 } L201 3 201 (E0 c) c.ahead lo hi c.out c.nmi (-1) false 1 (U1 c) 3 3
theorem q2 (c : Cp) : K2 c 201 = M2 c := by
  have h : ∀ st, Mi.programS 0 0 201 = st → K2 c 201 = mkS (R0 c) st 0 201 (E0 c) c.ahead c.lo c.hi c.out c.nmi 0 c.port c.what c.r.pc 4 4 := by
    intro st h
    rw [← h]
    rfl
  exact h _ p201
theorem q3 (c : Cp) : ((M2 c).goto (1 : Nat)).cycle (1, 4, 0, 3) = M3 c := rfl
theorem q4 (c : Cp) (lo : Int) : ((M3 c).at 3).latch lo = M4 c lo := rfl
theorem q5 (c : Cp) (lo : Int) : ((M4 c lo).goto (2 : Nat)).cycle (1, 4, 1, 3) = M5 c lo := rfl
theorem q6 (c : Cp) (lo hi : Int) : ((M5 c lo).at 3).latch hi = M6 c lo hi := rfl
theorem q7 (c : Cp) (lo hi : Int) : ((M6 c lo hi).goto (3 : Nat)).jump = M7 c lo hi := rfl
theorem q8 (c : Cp) (lo hi : Int) : (M7 c lo hi).stop = M8 c lo hi := rfl
set_option maxRecDepth 100000 in
set_option maxHeartbeats 4000000 in
theorem run_ret (c : Cp) (f : Fl) (a b : Nat) (lo hi : Int) (hc : c.Calm) (hkd : c.kind = -1) (hl : f.line = false) (hh : c.r.halt = false) (hp : c.r.pre = 0) (hah : c.ahead = false) (hpc : c.r.pc = a) (hsp : c.r.sp = b) (hb : b + 1 < 65536) (hlo : B8 lo) (hhi : B8 hi)
    (m0 : f.m.getD a 0 = 201) (m1 : f.m.getD b 0 = lo) (m2 : f.m.getD (b + 1) 0 = hi) :
    ∃ f2, Run 10 c f (M8 c lo hi) f2 ∧ f2.line = false ∧ f2.m = f.m := by
  have nm : c.nmi = false := hc.nmi
  have o2 : (M2 c).Ok := by rw [← q2]; exact ok_k2 hc.ok 201 ⟨by decide, by decide⟩ (by rw [p201]; decide)
  have g2 : ((M2 c).goto (1 : Nat)).Ok := ok_goto o2 1 (by show _ ≤ (3 : Nat); decide)
  have o3 : (M3 c).Ok := by rw [← q3]; exact ok_cycle g2 _
  have c3 : (M3 c).Calm := by rw [← q3]; exact calm_cycle g2 nm _ ⟨by decide, by decide⟩
  have o4 : (M4 c lo).Ok := by rw [← q4]; exact ok_latch (ok_at o3 3) lo hlo
  have g4 : ((M4 c lo).goto (2 : Nat)).Ok := ok_goto o4 2 (by show _ ≤ (3 : Nat); decide)
  have o5 : (M5 c lo).Ok := by rw [← q5]; exact ok_cycle g4 _
  have c5 : (M5 c lo).Calm := by rw [← q5]; exact calm_cycle g4 nm _ ⟨by decide, by decide⟩
  have o6 : (M6 c lo hi).Ok := by rw [← q6]; exact ok_latch (ok_at o5 3) hi hhi
  have g6 : ((M6 c lo hi).goto (3 : Nat)).Ok := ok_goto o6 3 (by show _ ≤ (3 : Nat); decide)
  have w7 := workOk_jump _ g6
  rw [q7] at w7
  have t1 : NextTo (M2 c) (M3 c) := by rw [← q3]; exact next_cycle o2 rfl 0 rfl 1 4 0 3 rfl (by decide) (by decide) (by intro h; omega)
  have t2 : NextTo (M4 c lo) (M5 c lo) := by rw [← q5]; exact next_cycle o4 rfl 1 rfl 1 4 1 3 rfl (by decide) (by decide) (by intro h; omega)
  have t3 : NextTo (M6 c lo hi) (M8 c lo hi) := ⟨o6, .inr ⟨rfl, 2, NextN.work 1 _ (M7 c lo hi) _ 2 0 24 0 rfl rfl w7 (by rw [← q8]; exact NextN.stop 0 (M7 c lo hi) (by show ((3 : Nat) : Int) ≤ ((3 : Nat) : Int); decide) hah)⟩⟩
  have f1 : FinTo (c.begun.at 4) (f.incs 3) (M3 c) (f.incs 3) := fin_code c (M3 c) (f.incs 3) 201 a hc ⟨by decide, by decide⟩ hh hp hpc (by rw [incs_m]; exact m0) (by decide) (by rw [q2]; exact t1) (by rw [q2]; show (0 : Int) ≠ -1; decide)
  have f2 : ∀ F : Fl, F.m = f.m → FinTo ((M3 c).at 3) F (M5 c lo) F := fun F hF => by
    refine FinTo.read _ (M5 c lo) F rfl ?_
    have e : ((M3 c).at 3).addr.toNat = b := by show c.r.sp.toNat = b; rw [hsp]; rfl
    rw [e, hF, m1, q4]
    exact t2
  have f3 : ∀ F : Fl, F.m = f.m → FinTo ((M5 c lo).at 3) F (M8 c lo hi) F := fun F hF => by
    refine FinTo.read _ (M8 c lo hi) F rfl ?_
    have e : ((M5 c lo).at 3).addr.toNat = b + 1 := by show ((c.r.sp + 1) % 65536).toNat = b + 1; rw [hsp]; omega
    rw [e, hF, m2, q6]
    exact t3
  obtain ⟨F1, hF1⟩ : ∃ F, F = f.incs 4 := ⟨_, rfl⟩
  have l1 : F1.line = false ∧ F1.m = f.m := by rw [hF1]; exact ⟨by rw [incs_line]; exact hl, incs_m f 4⟩
  obtain ⟨F2, hF2⟩ : ∃ F, F = F1.incs 3 := ⟨_, rfl⟩
  have l2 : F2.line = false ∧ F2.m = f.m := by rw [hF2]; exact ⟨by rw [incs_line]; exact l1.1, by rw [incs_m]; exact l1.2⟩
  have r2 : Run 3 (M5 c lo) F2 (M8 c lo hi) (F2.incs 2).inc := run_last 2 _ _ F2 _ c5 l2.1 (by show (1 : Int) ≠ -1; decide) (by show (1 : Int) ≠ 4; decide) rfl (f3 _ (by rw [incs_m]; exact l2.2)) rfl
  have r1 : Run 6 (M3 c) F1 (M8 c lo hi) _ := run_cycle 2 3 _ (M5 c lo) _ F1 (F1.incs 2) _ c3 l1.1 (by show (1 : Int) ≠ -1; decide) (by show (1 : Int) ≠ 4; decide) rfl (f2 _ (by rw [incs_m]; exact l1.2)) (by show (1 : Int) ≠ -1; decide) (by rw [show (F1.incs 2).inc = F2 from hF2.symm]; exact r2)
  refine ⟨_, run_fetch 6 c (M3 c) _ f (f.incs 3) _ hc hl hkd f1 (by show (1 : Int) ≠ -1; decide) (by rw [show (f.incs 3).inc = F1 from hF1.symm]; exact r1), ?_, ?_⟩
  · show (F2.incs 2).line = false
    rw [incs_line]; exact l2.1
  · show (F2.incs 2).m = _
    rw [incs_m, l2.2]
/-- a processor behind a call -/
theorem calm_k12 {c : Cp} (hc : c.Calm) (lo hi : Int) (hlo : B8 lo) (hhi : B8 hi) : (K12 c lo hi).Calm := by
  have hr := hc.ok.r
  obtain ⟨a0, a1⟩ := hlo; obtain ⟨b0, b1⟩ := hhi
  have hw : B16 (hi * 256 + lo) := ⟨by omega, by omega⟩
  have hR : B8 (c.r.r / 128 * 128 + (c.r.r + 1) % 128) := by obtain ⟨x, y⟩ := hr.r'; exact ⟨by omega, by omega⟩
  have hout : B8 (P3 c % 256) := b8_mod _
  have z8 : B8 0 := ⟨by decide, by decide⟩
  have k8 : B8 205 := ⟨by decide, by decide⟩
  exact ⟨⟨{ hr with pc := hw, wz := hw, sp := b16_mod _, q := z8, r' := hR, pre := z8 }, k8, ⟨a0, a1⟩, ⟨b0, b1⟩, pair_b16 hr 2 0, hout, b16_mod _, show (0 : Int) ≤ 7 by decide, show (7 : Int) ≤ ((7 : Nat) : Int) by decide, show (7 : Nat) ≤ 64 by decide⟩, rfl, hc.nmi, show (0 : Int) ≤ 3 ∧ (3 : Int) ≤ 100 by decide, show (0 : Int) ≤ 3 ∧ (3 : Int) ≤ 100 by decide⟩
theorem getD_set_ne (l : List Int) (i j : Nat) (v : Int) (h : i ≠ j) : (l.set i v).getD j 0 = l.getD j 0 := by simp [List.getD, List.getElem?_set, h]
theorem getD_set_eq (l : List Int) (i : Nat) (v : Int) (h : i < l.length) : (l.set i v).getD i 0 = v := by simp [List.getD, List.getElem?_set, h]
theorem rg_same (r : Rg) (p z R : Int) (h1 : r.hold = false) (h2 : r.pre = 0) (h3 : r.q = 0) : ({ r with hold := false, r := R, pre := 0, q := 0, pc := p, wz := z, sp := r.sp } : Rg) = { r with pc := p, wz := z, r := R } := by
  cases r
  simp only at h1 h2 h3
  subst h1 h2 h3
  rfl
/-- a call, and the way back: registers, memory, T-states -/
theorem call_ret (r : Rg) (hr : r.Ok) (at_ sp tg lo hi : Nat) (f : Fl) (hl : f.line = false) (hlen : f.m.length = 65536) (h0 : r.halt = false) (h1 : r.hold = false) (h2 : r.pre = 0) (h3 : r.q = 0) (hpc : r.pc = at_) (hsp : r.sp = sp) (ht : tg = hi * 256 + lo) (hlo : lo < 256) (hhi : hi < 256)
    (ha : 100 ≤ at_ ∧ at_ ≤ 30000) (hs : 32000 ≤ sp ∧ sp ≤ 40000) (hto : 50000 ≤ tg ∧ tg ≤ 65000) (m0 : f.m.getD at_ 0 = 205) (m1 : f.m.getD (at_ + 1) 0 = lo) (m2 : f.m.getD (at_ + 2) 0 = hi) (m3 : f.m.getD tg 0 = 201) :
    ∃ c1 f1 c2 f2, Run 17 r.newC f c1 f1 ∧ Run 10 c1 f1 c2 f2 ∧ f2.m.getD (sp - 1) 0 = ((at_ + 3) / 256 : Nat) ∧ f2.m.getD (sp - 2) 0 = ((at_ + 3) % 256 : Nat) ∧ ∃ R, c2.r = { r with pc := at_ + 3, wz := at_ + 3, r := R } := by
  have z8 : B8 0 := ⟨by decide, by decide⟩
  have z16 : B16 0 := ⟨by decide, by decide⟩
  have hcN : r.newC.Calm := ⟨⟨hr, z8, z8, z8, z16, z8, z16, Int.le_refl _, Int.le_refl _, Nat.zero_le _⟩, rfl, rfl, show (0 : Int) ≤ 0 ∧ (0 : Int) ≤ 100 by decide, show (0 : Int) ≤ 0 ∧ (0 : Int) ≤ 100 by decide⟩
  have bl : B8 (lo : Int) := ⟨by omega, by omega⟩
  have bh : B8 (hi : Int) := ⟨by omega, by omega⟩
  obtain ⟨f1, hr1, hl1, hm1⟩ := run_call r.newC f at_ lo hi hcN rfl hl h0 h2 rfl hpc (by omega) bl bh m0 m1 m2
  have e9 : (K9 r.newC lo hi).addr.toNat = sp - 1 := by show ((r.sp - 1) % 65536).toNat = sp - 1; rw [hsp]; omega
  have e10 : (K10 r.newC lo hi).addr.toNat = sp - 2 := by show (((r.sp - 1) % 65536 - 1) % 65536).toNat = sp - 2; rw [hsp]; omega
  have o9 : (K9 r.newC lo hi).out = ((at_ + 3) / 256 : Nat) := by show (((r.pc + 1) % 65536 + 1) % 65536 + 1) % 65536 / 256 = _; rw [hpc]; omega
  have o10 : (K10 r.newC lo hi).out = ((at_ + 3) % 256 : Nat) := by show (((r.pc + 1) % 65536 + 1) % 65536 + 1) % 65536 % 256 = _; rw [hpc]; omega
  rw [e9, e10, o9, o10] at hm1
  have hp12 : (K12 r.newC lo hi).r.pc = tg := by show (hi : Int) * 256 + lo = tg; omega
  have hs12 : (K12 r.newC lo hi).r.sp = (sp - 2 : Nat) := by show ((r.sp - 1) % 65536 - 1) % 65536 = _; rw [hsp]; omega
  have g0 : f1.m.getD tg 0 = 201 := by
    rw [hm1, getD_set_ne _ _ _ _ (by omega), getD_set_ne _ _ _ _ (by omega), m3]
  have gA : f1.m.getD (sp - 2) 0 = ((at_ + 3) % 256 : Nat) := by
    rw [hm1, getD_set_eq _ _ _ (by rw [List.length_set]; omega)]
  have gB : f1.m.getD (sp - 1) 0 = ((at_ + 3) / 256 : Nat) := by
    rw [hm1, getD_set_ne _ _ _ _ (by omega), getD_set_eq _ _ _ (by omega)]
  obtain ⟨f2, hr2, hl2, hm2⟩ := run_ret (K12 r.newC lo hi) f1 tg (sp - 2) ((at_ + 3) % 256 : Nat) ((at_ + 3) / 256 : Nat) (calm_k12 hcN lo hi bl bh) rfl hl1 h0 rfl rfl hp12 hs12 (by omega) ⟨by omega, by omega⟩ ⟨by omega, by omega⟩ g0 gA (by rw [show sp - 2 + 1 = sp - 1 by omega]; exact gB)
  refine ⟨_, f1, _, f2, hr1, hr2, by rw [hm2]; exact gB, by rw [hm2]; exact gA, (M8 (K12 r.newC lo hi) ((at_ + 3) % 256 : Nat) ((at_ + 3) / 256 : Nat)).r.r, ?_⟩
  have ew : (((at_ + 3) / 256 : Nat) : Int) * 256 + ((at_ + 3) % 256 : Nat) = at_ + 3 := by omega
  have es : ((((r.sp - 1) % 65536 - 1) % 65536 + 1) % 65536 + 1) % 65536 = r.sp := by rw [hsp]; omega
  have hrr : (M8 (K12 r.newC lo hi) ((at_ + 3) % 256 : Nat) ((at_ + 3) / 256 : Nat)).r = { r with hold := false, r := (M8 (K12 r.newC lo hi) ((at_ + 3) % 256 : Nat) ((at_ + 3) / 256 : Nat)).r.r, pre := 0, q := 0, pc := (((at_ + 3) / 256 : Nat) : Int) * 256 + ((at_ + 3) % 256 : Nat), wz := (((at_ + 3) / 256 : Nat) : Int) * 256 + ((at_ + 3) % 256 : Nat), sp := ((((r.sp - 1) % 65536 - 1) % 65536 + 1) % 65536 + 1) % 65536 } := rfl
  rw [ew, es] at hrr
  exact hrr.trans (rg_same r _ _ _ h1 h2 h3)
end Go.Proofs.YtbhpmnhlmeglcaaGreat
