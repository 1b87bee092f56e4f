/- cpu: a code has been fetched. -/
import Derived.Test.YtbhpmnhlmeglcaaGreatCpuG
namespace Go.Proofs.YtbhpmnhlmeglcaaGreat
set_option linter.unusedSimpArgs false
set_option linter.unusedVariables false
open Go.RowKit
def Rg.tick (r : Rg) : Rg := { r with r := r.r / 128 * 128 + (r.r + 1) % 128 }
/-- behind the count of R, and of PC -/
def Cp.ticked (c : Cp) : Cp := { c with r := c.r.tick }
def Cp.inc (c : Cp) : Cp := { c with r := { c.r.tick with pc := (c.r.pc + 1) % 65536 } }
def Cp.inc0 (c : Cp) : Cp := { c with r := { c.r.tick with pc := (c.r.pc + 1) % 65536, pre := 0 } }
theorem ok_tick {c : Cp} (h : c.Ok) : c.r.tick.Ok := { h.r with r' := by obtain ⟨a, b⟩ := h.r.r'; show B8 (c.r.r / 128 * 128 + (c.r.r + 1) % 128); exact ⟨by omega, by omega⟩ }
theorem ok_inc {c : Cp} (h : c.Ok) : c.inc.r.Ok := { ok_tick h with pc := b16_mod _ }
theorem ok_inc0 {c : Cp} (h : c.Ok) : c.inc0.r.Ok := { ok_tick h with pc := b16_mod _, pre := (show B8 0 from ⟨by decide, by decide⟩) }
theorem cp_tick (g : Nat) (sv : Value) (c : Cp) (w : World) (h : CpAt w g sv c) (ho : c.Ok) :
    Calls Tryz.prog 37 #[.pointer (some ⟨g, 0, none⟩)] w fun e w' => e = .returned (.tuple #[]) ∧ CpAt w' g sv c.ticked ∧ Only g w w' :=
  (tick_any c.r 46 (c.tail sv) g w h.blk ho.r.r').mono fun e w' ⟨h1, h2, h3⟩ => ⟨h1, h.turn h3 h2 rfl, h3⟩
set_option maxRecDepth 100000 in
set_option maxHeartbeats 4000000 in
theorem cp_fetchHalt (g : Nat) (sv : Value) (c : Cp) (code : Int) (w : World) (h : CpAt w g sv c) (ho : c.Ok) (hk : B8 code) (hh : c.r.halt = true) :
    Calls Tryz.prog 30 #[.pointer (some ⟨g, 0, none⟩), .int .u8 code] w (Done (.tuple #[]) g w sv c.ticked) := by
  have H := Lib.hid h; have HO := Lib.hid ho; have HK := Lib.hid hk
  have hpc := ho.r.pc
  have w1 : IntKind.u16.wrap (c.r.pc + 1) = (c.r.pc + 1) % 65536 := by rw [IntKind.wrap_u16]
  clear h ho hk
  go_enter Tryz.func30, Tryz.ntmps30
  go_wp2_with (first
    | (go_at_call 37; refine (cp_tick g sv c _ H.out HO.out).mono ?_; rintro e w1 ⟨rfl, h1, ho1⟩; have H1 := Lib.hid h1; have HO1 := Lib.hid ho1; have a26 : w1.cell? ⟨g, 26, none⟩ = some (.bool true) := (by rw [← hh]; exact h1.blk.cell 26); have a22 : w1.cell? ⟨g, 22, none⟩ = some (.int .u16 c.r.pc) := h1.blk.cell 22; have y22 := h1.blk.frozen 22; have a34 : w1.cell? ⟨g, 34, none⟩ = some (.int .i64 c.second) := h1.blk.cell 34; have y34 := h1.blk.frozen 34; have a29 : w1.cell? ⟨g, 29, none⟩ = some (.int .u8 c.r.pre) := h1.blk.cell 29; have y29 := h1.blk.frozen 29; have a42 : w1.cell? ⟨g, 42, none⟩ = some (.int .i64 c.kind) := h1.blk.cell 42; have y42 := h1.blk.frozen 42; have a27 : w1.cell? ⟨g, 27, none⟩ = some (.bool c.r.hold) := h1.blk.cell 27; have y27 := h1.blk.frozen 27; clear h1 ho1))
  refine bodyPost_end (results_none rfl _ _ _) rfl ⟨rfl, sv, H1.out, .inl rfl, HO1.out.cpp⟩
set_option maxRecDepth 100000 in
set_option maxHeartbeats 4000000 in
theorem cp_fetchPlain (g : Nat) (sv : Value) (c : Cp) (code : Int) (w : World) (h : CpAt w g sv c) (ho : c.Ok) (hk : B8 code) (hh : c.r.halt = false) (hs : c.second = 0) (hc : code ≠ 221 ∧ code ≠ 253 ∧ code ≠ 237 ∧ code ≠ 203) :
    Calls Tryz.prog 30 #[.pointer (some ⟨g, 0, none⟩), .int .u8 code] w (Done (.tuple #[]) g w sv (c.inc0.program 0 c.r.pre code)) := by
  have H := Lib.hid h; have HO := Lib.hid ho; have HK := Lib.hid hk
  have hpc := ho.r.pc
  have w1 : IntKind.u16.wrap (c.r.pc + 1) = (c.r.pc + 1) % 65536 := by rw [IntKind.wrap_u16]
  have e1 : (code == 221) = false := by simp [hc.1]
  have e2 : (code == 253) = false := by simp [hc.2.1]
  have e3 : (code == 237) = false := by simp [hc.2.2.1]
  have e4 : (code == 203) = false := by simp [hc.2.2.2]
  have w2 : IntKind.i64.wrap c.r.pre = c.r.pre := by obtain ⟨a, b⟩ := ho.r.pre; rw [IntKind.wrap_i64]; omega
  clear h ho hk hc
  go_enter Tryz.func30, Tryz.ntmps30
  go_wp2_with (first
    | (go_at_call 39
       have HO2 : Hid (Only g w1 ((w1.setCell ⟨g, 22, none⟩ (.int .u16 ((c.r.pc + 1) % 65536))).setCell ⟨g, 29, none⟩ (.int .u8 0))) := Lib.hid ((Only.set g 22 w1 _).trans (Only.set g 29 _ _))
       have H2 : Hid (CpAt ((w1.setCell ⟨g, 22, none⟩ (.int .u16 ((c.r.pc + 1) % 65536))).setCell ⟨g, 29, none⟩ (.int .u8 0)) g sv c.inc0) := Lib.hid (H1.out.turn HO2.out ((H1.out.blk.set_ 22 _).set_ 29 _) rfl)
       refine (cp_program g sv c.inc0 0 c.r.pre code _ H2.out (ok_inc0 HO.out) HK.out).mono ?_
       rintro e w3 ⟨rfl, h3⟩)
    | (go_at_call 37; refine (cp_tick g sv c _ H.out HO.out).mono ?_; rintro e w1 ⟨rfl, h1, ho1⟩; have H1 := Lib.hid h1; have HO1 := Lib.hid ho1; have a26 : w1.cell? ⟨g, 26, none⟩ = some (.bool false) := (by rw [← hh]; exact h1.blk.cell 26); have a22 : w1.cell? ⟨g, 22, none⟩ = some (.int .u16 c.r.pc) := h1.blk.cell 22; have y22 := h1.blk.frozen 22; have a34 : w1.cell? ⟨g, 34, none⟩ = some (.int .i64 0) := (by rw [← hs]; exact h1.blk.cell 34); have y34 := h1.blk.frozen 34; have a29 : w1.cell? ⟨g, 29, none⟩ = some (.int .u8 c.r.pre) := h1.blk.cell 29; have y29 := h1.blk.frozen 29; have a42 : w1.cell? ⟨g, 42, none⟩ = some (.int .i64 c.kind) := h1.blk.cell 42; have y42 := h1.blk.frozen 42; have a27 : w1.cell? ⟨g, 27, none⟩ = some (.bool c.r.hold) := h1.blk.cell 27; have y27 := h1.blk.frozen 27; clear h1 ho1))
  refine bodyPost_end (results_none rfl _ _ _) rfl ⟨rfl, CpTo.step (.inl rfl) ((HO1.out.trans HO2.out).cpp) h3⟩
set_option maxRecDepth 100000 in
set_option maxHeartbeats 4000000 in
theorem cp_fetchSecond (g : Nat) (sv : Value) (c : Cp) (code : Int) (w : World) (h : CpAt w g sv c) (ho : c.Ok) (hk : B8 code) (hh : c.r.halt = false) (hs : 0 < c.second) :
    Calls Tryz.prog 30 #[.pointer (some ⟨g, 0, none⟩), .int .u8 code] w (Done (.tuple #[]) g w sv ({ c.inc with second := 0 }.program c.second 0 code)) := by
  have H := Lib.hid h; have HO := Lib.hid ho; have HK := Lib.hid hk
  have hpc := ho.r.pc
  have w1 : IntKind.u16.wrap (c.r.pc + 1) = (c.r.pc + 1) % 65536 := by rw [IntKind.wrap_u16]
  have hs0 : ¬ c.second ≤ 0 := by omega
  clear h ho hk
  go_enter Tryz.func30, Tryz.ntmps30
  go_wp2_with (first
    | (go_at_call 39
       have HO2 : Hid (Only g w1 ((w1.setCell ⟨g, 22, none⟩ (.int .u16 ((c.r.pc + 1) % 65536))).setCell ⟨g, 34, none⟩ (.int .i64 0))) := Lib.hid ((Only.set g 22 w1 _).trans (Only.set g 34 _ _))
       have H2 : Hid (CpAt ((w1.setCell ⟨g, 22, none⟩ (.int .u16 ((c.r.pc + 1) % 65536))).setCell ⟨g, 34, none⟩ (.int .i64 0)) g sv { c.inc with second := 0 }) := Lib.hid (H1.out.turn HO2.out ((H1.out.blk.set_ 22 _).set_ 34 _) rfl)
       refine (cp_program g sv { c.inc with second := 0 } c.second 0 code _ H2.out (ok_inc HO.out) HK.out).mono ?_
       rintro e w3 ⟨rfl, h3⟩)
    | (go_at_call 37; refine (cp_tick g sv c _ H.out HO.out).mono ?_; rintro e w1 ⟨rfl, h1, ho1⟩; have H1 := Lib.hid h1; have HO1 := Lib.hid ho1; have a26 : w1.cell? ⟨g, 26, none⟩ = some (.bool false) := (by rw [← hh]; exact h1.blk.cell 26); have a22 : w1.cell? ⟨g, 22, none⟩ = some (.int .u16 c.r.pc) := h1.blk.cell 22; have y22 := h1.blk.frozen 22; have a34 : w1.cell? ⟨g, 34, none⟩ = some (.int .i64 c.second) := h1.blk.cell 34; have y34 := h1.blk.frozen 34; have a29 : w1.cell? ⟨g, 29, none⟩ = some (.int .u8 c.r.pre) := h1.blk.cell 29; have y29 := h1.blk.frozen 29; have a42 : w1.cell? ⟨g, 42, none⟩ = some (.int .i64 c.kind) := h1.blk.cell 42; have y42 := h1.blk.frozen 42; have a27 : w1.cell? ⟨g, 27, none⟩ = some (.bool c.r.hold) := h1.blk.cell 27; have y27 := h1.blk.frozen 27; clear h1 ho1))
  refine bodyPost_end (results_none rfl _ _ _) rfl ⟨rfl, CpTo.step (.inl rfl) ((HO1.out.trans HO2.out).cpp) h3⟩
set_option maxRecDepth 100000 in
set_option maxHeartbeats 4000000 in
theorem cp_fetchEd (g : Nat) (sv : Value) (c : Cp) (code : Int) (w : World) (h : CpAt w g sv c) (ho : c.Ok) (hk : B8 code) (hh : c.r.halt = false) (hs : c.second = 0) (hc : code = 237) :
    Calls Tryz.prog 30 #[.pointer (some ⟨g, 0, none⟩), .int .u8 code] w (Done (.tuple #[]) g w sv { c.inc0 with second := 2 }) := by
  have H := Lib.hid h; have HO := Lib.hid ho; have HK := Lib.hid hk
  have hpc := ho.r.pc
  have w1 : IntKind.u16.wrap (c.r.pc + 1) = (c.r.pc + 1) % 65536 := by rw [IntKind.wrap_u16]
  subst hc
  have w2 : IntKind.i64.wrap c.r.pre = c.r.pre := by obtain ⟨a, b⟩ := ho.r.pre; rw [IntKind.wrap_i64]; omega
  clear h ho hk
  go_enter Tryz.func30, Tryz.ntmps30
  go_wp2_with (first
    | (go_at_call 37; refine (cp_tick g sv c _ H.out HO.out).mono ?_; rintro e w1 ⟨rfl, h1, ho1⟩; have H1 := Lib.hid h1; have HO1 := Lib.hid ho1; have a26 : w1.cell? ⟨g, 26, none⟩ = some (.bool false) := (by rw [← hh]; exact h1.blk.cell 26); have a22 : w1.cell? ⟨g, 22, none⟩ = some (.int .u16 c.r.pc) := h1.blk.cell 22; have y22 := h1.blk.frozen 22; have a34 : w1.cell? ⟨g, 34, none⟩ = some (.int .i64 0) := (by rw [← hs]; exact h1.blk.cell 34); have y34 := h1.blk.frozen 34; have a29 : w1.cell? ⟨g, 29, none⟩ = some (.int .u8 c.r.pre) := h1.blk.cell 29; have y29 := h1.blk.frozen 29; have a42 : w1.cell? ⟨g, 42, none⟩ = some (.int .i64 c.kind) := h1.blk.cell 42; have y42 := h1.blk.frozen 42; have a27 : w1.cell? ⟨g, 27, none⟩ = some (.bool c.r.hold) := h1.blk.cell 27; have y27 := h1.blk.frozen 27; clear h1 ho1))
  refine bodyPost_end (results_none rfl _ _ _) rfl ⟨rfl, CpTo.step (.inl rfl) HO1.out.cpp (H1.out.only (((Only.set g 22 w1 _).trans (Only.set g 29 _ _)).trans (Only.set g 34 _ _)) (((H1.out.blk.set_ 22 _).set_ 29 _).set_ 34 _) rfl)⟩
set_option maxRecDepth 100000 in
set_option maxHeartbeats 4000000 in
theorem cp_fetchCb (g : Nat) (sv : Value) (c : Cp) (code : Int) (w : World) (h : CpAt w g sv c) (ho : c.Ok) (hk : B8 code) (hh : c.r.halt = false) (hs : c.second = 0) (hp : c.r.pre = 0) (hc : code = 203) :
    Calls Tryz.prog 30 #[.pointer (some ⟨g, 0, none⟩), .int .u8 code] w (Done (.tuple #[]) g w sv { c.inc0 with second := 1 }) := by
  have H := Lib.hid h; have HO := Lib.hid ho; have HK := Lib.hid hk
  have hpc := ho.r.pc
  have w1 : IntKind.u16.wrap (c.r.pc + 1) = (c.r.pc + 1) % 65536 := by rw [IntKind.wrap_u16]
  subst hc
  have w2 : IntKind.i64.wrap c.r.pre = c.r.pre := by obtain ⟨a, b⟩ := ho.r.pre; rw [IntKind.wrap_i64]; omega
  rw [hp] at w2
  clear h ho hk
  go_enter Tryz.func30, Tryz.ntmps30
  go_wp2_with (first
    | (go_at_call 37; refine (cp_tick g sv c _ H.out HO.out).mono ?_; rintro e w1 ⟨rfl, h1, ho1⟩; have H1 := Lib.hid h1; have HO1 := Lib.hid ho1; have a26 : w1.cell? ⟨g, 26, none⟩ = some (.bool false) := (by rw [← hh]; exact h1.blk.cell 26); have a22 : w1.cell? ⟨g, 22, none⟩ = some (.int .u16 c.r.pc) := h1.blk.cell 22; have y22 := h1.blk.frozen 22; have a34 : w1.cell? ⟨g, 34, none⟩ = some (.int .i64 0) := (by rw [← hs]; exact h1.blk.cell 34); have y34 := h1.blk.frozen 34; have a29 : w1.cell? ⟨g, 29, none⟩ = some (.int .u8 0) := (by rw [← hp]; exact h1.blk.cell 29); have y29 := h1.blk.frozen 29; have a42 : w1.cell? ⟨g, 42, none⟩ = some (.int .i64 c.kind) := h1.blk.cell 42; have y42 := h1.blk.frozen 42; have a27 : w1.cell? ⟨g, 27, none⟩ = some (.bool c.r.hold) := h1.blk.cell 27; have y27 := h1.blk.frozen 27; clear h1 ho1))
  refine bodyPost_end (results_none rfl _ _ _) rfl ⟨rfl, CpTo.step (.inl rfl) HO1.out.cpp (H1.out.only (((Only.set g 22 w1 _).trans (Only.set g 29 _ _)).trans (Only.set g 34 _ _)) (((H1.out.blk.set_ 22 _).set_ 29 _).set_ 34 _) rfl)⟩
end Go.Proofs.YtbhpmnhlmeglcaaGreat
