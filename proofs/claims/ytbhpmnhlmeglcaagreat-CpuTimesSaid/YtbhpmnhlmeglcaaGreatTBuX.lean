/- cpu: works: a jump, a call, the way back. -/
import Derived.Test.YtbhpmnhlmeglcaaGreatTBuR
import Derived.Test.YtbhpmnhlmeglcaaGreatTReg
import Derived.Deep.QuietTactic
namespace Go.Proofs.YtbhpmnhlmeglcaaGreat
set_option linter.unusedSimpArgs false
set_option linter.unusedVariables false
open Go.RowKit
def Cp.wordV (c : Cp) : Int := c.hi * 256 + c.lo
theorem word_b16 {c : Cp} (h : c.Ok) : B16 c.wordV := by
  obtain ⟨a1, a2⟩ := h.hi; obtain ⟨b1, b2⟩ := h.lo
  unfold Cp.wordV
  exact ⟨by omega, by omega⟩
set_option maxRecDepth 100000 in
set_option maxHeartbeats 2000000 in
theorem cp_word (g : Nat) (sv : Value) (c : Cp) (w : World) (h : CpAt w g sv c) (ho : c.Ok) :
    Calls Tryz.prog 67 #[.pointer (some ⟨g, 0, none⟩)] w fun e w' => e = .returned (.int .u16 c.wordV) ∧ Drew w w' := by
  have hb := h.blk
  have c36 : w.cell? ⟨g, 36, none⟩ = some (.int .u8 c.lo) := hb.cell 36
  have c37 : w.cell? ⟨g, 37, none⟩ = some (.int .u8 c.hi) := hb.cell 37
  have h1 := ho.hi; have h2 := ho.lo
  unfold Cp.wordV
  clear hb h ho
  go_enter Tryz.func67, Tryz.ntmps67
  go_wp2_with fail
  go_quiet ((go_at_call 38; exact Calls.quiet_of_same (same_swap (wideOf_any _ _ _ h1 h2))))
  go_wp2
  go_ret
  exact ⟨rfl, _, rfl⟩
theorem work_first (k : Int) (g : Nat) (sv : Value) (c c' : Cp) (w : World) (hk : 0 ≤ k ∧ k ≤ 31)
    (h : Calls Tryz.prog 45 #[.pointer (some ⟨g, 0, none⟩), .int .i64 k] w (Done (.tuple #[]) g w sv c')) :
    Calls Tryz.prog 40 #[.pointer (some ⟨g, 0, none⟩), .int .i64 k] w (Done (.tuple #[]) g w sv c') := by
  have H := Lib.hid h
  have hk2 : k ≤ 31 := hk.2
  clear h hk
  go_enter Tryz.func40, Tryz.ntmps40
  go_wp2_with (first
    | (go_at_call 45; refine H.out.mono ?_; rintro e w1 ⟨rfl, h1⟩))
  exact bodyPost_end (results_none rfl _ _ _) rfl ⟨rfl, h1⟩
def Cp.nn (c : Cp) : Cp := { c with r := { c.r with wz := c.wordV } }
def Cp.jump (c : Cp) : Cp := { c with r := { c.r with pc := c.wordV, wz := c.wordV } }
def Cp.jpWz (c : Cp) : Cp := { c with r := { c.r with pc := c.r.wz } }
set_option maxRecDepth 100000 in
set_option maxHeartbeats 4000000 in
theorem first_nn (g : Nat) (sv : Value) (c : Cp) (w : World) (h : CpAt w g sv c) (ho : c.Ok) :
    Calls Tryz.prog 45 #[.pointer (some ⟨g, 0, none⟩), .int .i64 8] w (Done (.tuple #[]) g w sv c.nn) := by
  have H := Lib.hid h; have HO := Lib.hid ho
  clear h ho
  go_enter Tryz.func45, Tryz.ntmps45
  go_wp2_with (first
    | (go_at_call 67; refine (cp_word g sv c _ H.out HO.out).mono ?_; rintro e w1 ⟨rfl, hd1⟩; have H1 := Lib.hid (H.out.drewAt hd1); have HD1 := Lib.hid hd1; have e23 : w1.cell? ⟨g, 23, none⟩ = some (.int .u16 c.r.wz) := H1.out.blk.cell 23; have y23 := H1.out.blk.frozen 23; clear hd1))
  exact bodyPost_end (results_none rfl _ _ _) rfl ⟨rfl, H.out.only ((Drew.only HD1.out).trans (Only.set g 23 w1 _)) (H1.out.blk.set_ 23 _) rfl⟩
set_option maxRecDepth 100000 in
set_option maxHeartbeats 4000000 in
theorem first_jump (g : Nat) (sv : Value) (c : Cp) (w : World) (h : CpAt w g sv c) (ho : c.Ok) :
    Calls Tryz.prog 45 #[.pointer (some ⟨g, 0, none⟩), .int .i64 24] w (Done (.tuple #[]) g w sv c.jump) := by
  have H := Lib.hid h; have HO := Lib.hid ho
  clear h ho
  go_enter Tryz.func45, Tryz.ntmps45
  go_wp2_with (first
    | (go_at_call 67; refine (cp_word g sv c _ H.out HO.out).mono ?_; rintro e w1 ⟨rfl, hd1⟩; have H1 := Lib.hid (H.out.drewAt hd1); have HD1 := Lib.hid hd1; have e23 : w1.cell? ⟨g, 23, none⟩ = some (.int .u16 c.r.wz) := H1.out.blk.cell 23; have y23 := H1.out.blk.frozen 23; have e22 : w1.cell? ⟨g, 22, none⟩ = some (.int .u16 c.r.pc) := H1.out.blk.cell 22; have y22 := H1.out.blk.frozen 22; clear hd1))
  exact bodyPost_end (results_none rfl _ _ _) rfl ⟨rfl, H.out.only (((Drew.only HD1.out).trans (Only.set g 22 w1 _)).trans (Only.set g 23 _ _)) ((H1.out.blk.set_ 22 _).set_ 23 _) rfl⟩
set_option maxRecDepth 100000 in
set_option maxHeartbeats 4000000 in
theorem first_jpWz (g : Nat) (sv : Value) (c : Cp) (w : World) (h : CpAt w g sv c) (ho : c.Ok) :
    Calls Tryz.prog 45 #[.pointer (some ⟨g, 0, none⟩), .int .i64 29] w (Done (.tuple #[]) g w sv c.jpWz) := by
  have H := Lib.hid h; have HB := Lib.hid h.blk
  have e23 : w.cell? ⟨g, 23, none⟩ = some (.int .u16 c.r.wz) := h.blk.cell 23
  have e22 : w.cell? ⟨g, 22, none⟩ = some (.int .u16 c.r.pc) := h.blk.cell 22
  have y22 := h.blk.frozen 22
  clear h ho
  go_enter Tryz.func45, Tryz.ntmps45
  go_wp2
  exact bodyPost_end (results_none rfl _ _ _) rfl ⟨rfl, H.out.only (Only.set g 22 w _) (HB.out.set_ 22 _) rfl⟩
theorem workOk_nn (c : Cp) (ho : c.Ok) : WorkOk 8 c c.nn :=
  ⟨⟨{ ho.r with wz := word_b16 ho }, ho.code, ho.lo, ho.hi, ho.ea, ho.out, ho.addr, ho.at0, ho.at1, ho.len⟩, fun g sv w h => work_first 8 g sv c _ w (by decide) (first_nn g sv c w h ho)⟩
theorem workOk_jump (c : Cp) (ho : c.Ok) : WorkOk 24 c c.jump :=
  ⟨⟨{ ho.r with pc := word_b16 ho, wz := word_b16 ho }, ho.code, ho.lo, ho.hi, ho.ea, ho.out, ho.addr, ho.at0, ho.at1, ho.len⟩, fun g sv w h => work_first 24 g sv c _ w (by decide) (first_jump g sv c w h ho)⟩
theorem workOk_jpWz (c : Cp) (ho : c.Ok) : WorkOk 29 c c.jpWz :=
  ⟨⟨{ ho.r with pc := ho.r.wz }, ho.code, ho.lo, ho.hi, ho.ea, ho.out, ho.addr, ho.at0, ho.at1, ho.len⟩, fun g sv w h => work_first 29 g sv c _ w (by decide) (first_jpWz g sv c w h ho)⟩
end Go.Proofs.YtbhpmnhlmeglcaaGreat
