/- cpu: the works of ldir. -/
import Derived.Test.YtbhpmnhlmeglcaaGreatTBuZ
import Derived.Test.YtbhpmnhlmeglcaaGreatTFlg
import Derived.Deep.QuietTactic
import Derived.StillTailTactics
namespace Go.Proofs.YtbhpmnhlmeglcaaGreat
set_option linter.unusedSimpArgs false
set_option linter.unusedVariables false
open Go.RowKit
def Cp.withR (c : Cp) (r : Rg) : Cp := { c with r := r }
def Cp.setF (c : Cp) (f : Int) : Cp := { c with r := { c.r with f := f }, wrote := true }
theorem ok_withR {c : Cp} (h : c.Ok) {r : Rg} (hr : r.Ok) : (c.withR r).Ok := ⟨hr, h.code, h.lo, h.hi, h.ea, h.out, h.addr, h.at0, h.at1, h.len⟩
theorem ok_setF {c : Cp} (h : c.Ok) {f : Int} (hf : B8 f) : (c.setF f).Ok := ⟨{ h.r with f := hf }, h.code, h.lo, h.hi, h.ea, h.out, h.addr, h.at0, h.at1, h.len⟩
theorem cp_pair (g : Nat) (sv : Value) (c : Cp) (k ix : Int) (w : World) (h : CpAt w g sv c) (ho : c.Ok) :
    Calls Tryz.prog 44 #[.pointer (some ⟨g, 0, none⟩), .int .i64 k, .int .i64 ix] w fun e w' => e = .returned (.int .u16 (c.r.pair k ix)) ∧ Drew w w' := pair_any c.r 46 (c.tail sv) g k ix w h.blk ho.r
theorem cp_putPair (g : Nat) (sv : Value) (c : Cp) (k ix v : Int) (w : World) (h : CpAt w g sv c) (hv : B16 v) :
    Calls Tryz.prog 65 #[.pointer (some ⟨g, 0, none⟩), .int .i64 k, .int .i64 ix, .int .u16 v] w (Done (.tuple #[]) g w sv (c.withR (c.r.putPair k ix v))) := by
  refine (putPair_any c.r 46 (c.tail sv) g k ix v w h.blk hv).mono ?_
  rintro e w' ⟨rfl, h1, h2⟩
  exact Done.at h h2 h1 rfl
set_option maxHeartbeats 2000000 in
theorem cp_set (g : Nat) (sv : Value) (c : Cp) (f : Int) (w : World) (h : CpAt w g sv c) :
    Calls Tryz.prog 69 #[.pointer (some ⟨g, 0, none⟩), .int .u8 f] w (Done (.tuple #[]) g w sv (c.setF f)) := by
  have hb := h.blk
  have c1 : w.cell? ⟨g, 1, none⟩ = some (.int .u8 c.r.f) := hb.cell 1
  have c40 : w.cell? ⟨g, 40, none⟩ = some (.bool c.wrote) := hb.cell 40
  have z1 := hb.frozen 1
  have z40 := hb.frozen 40
  have H := Lib.hid h; have HB := Lib.hid hb
  clear h hb
  go_enter Tryz.func69, Tryz.ntmps69
  go_wp2
  refine bodyPost_end (results_none rfl _ _ _) rfl ?_
  exact Done.at H.out ((Only.set g 1 w _).trans (Only.set g 40 _ _)) ((HB.out.set_ 1 _).set_ 40 _) rfl
def alongV (code : Int) : Int := if code / 8 % 8 % 2 = 1 then 65535 else 1
theorem along_b16 (code : Int) : B16 (alongV code) := by
  unfold alongV
  split
  · exact ⟨by decide, by decide⟩
  · exact ⟨by decide, by decide⟩
theorem and1 (y : Int) (h : 0 ≤ y ∧ y ≤ 7) : bits .and .i64 y 1 = y % 2 := by
  have : y = 0 ∨ y = 1 ∨ y = 2 ∨ y = 3 ∨ y = 4 ∨ y = 5 ∨ y = 6 ∨ y = 7 := by omega
  rcases this with rfl | rfl | rfl | rfl | rfl | rfl | rfl | rfl <;> decide +kernel
set_option maxHeartbeats 2000000 in
theorem cp_along (g : Nat) (sv : Value) (c : Cp) (w : World) (h : CpAt w g sv c) (ho : c.Ok) :
    Calls Tryz.prog 129 #[.pointer (some ⟨g, 0, none⟩)] w fun e w' => e = .returned (.int .u16 (alongV c.code)) ∧ w = w' := by
  have c32 : w.cell? ⟨g, 32, none⟩ = some (.int .u8 c.code) := h.blk.cell 32
  have hk := ho.code
  have ha : bits .and .i64 (c.code / 8 % 8) 1 = c.code / 8 % 8 % 2 := and1 _ (by omega)
  unfold alongV
  obtain ⟨y, hy⟩ : ∃ y, y = c.code / 8 % 8 := ⟨_, rfl⟩
  have HY := Lib.hid (fun w => cpu_y c.code w hk)
  rw [← hy] at ha HY ⊢
  have h01 : y % 2 = 0 ∨ y % 2 = 1 := by omega
  clear h ho hy hk
  rcases h01 with h0 | h0
  all_goals
    rw [h0] at ha ⊢
    clear h0
    go_enter Tryz.func129, Tryz.ntmps129
    go_wp2_with (first
      | (go_at_call 49; refine (HY.out _).mono ?_; rintro e w1 ⟨rfl, rfl⟩))
    go_ret
    exact ⟨rfl, rfl⟩
set_option maxHeartbeats 2000000 in
theorem cp_again (g : Nat) (sv : Value) (c : Cp) (w : World) (h : CpAt w g sv c) :
    Calls Tryz.prog 133 #[.pointer (some ⟨g, 0, none⟩)] w (Done (.tuple #[]) g w sv (c.withR { c.r with pc := (c.r.pc - 2) % 65536, wz := (c.r.pc - 2 + 1) % 65536 })) := by
  have hb := h.blk
  have c22 : w.cell? ⟨g, 22, none⟩ = some (.int .u16 c.r.pc) := hb.cell 22
  have c23 : w.cell? ⟨g, 23, none⟩ = some (.int .u16 c.r.wz) := hb.cell 23
  have z22 := hb.frozen 22
  have z23 := hb.frozen 23
  have w1 : IntKind.u16.wrap (c.r.pc - 2) = (c.r.pc - 2) % 65536 := IntKind.wrap_u16 _
  have w2 : IntKind.u16.wrap ((c.r.pc - 2) % 65536 + 1) = (c.r.pc - 2 + 1) % 65536 := by rw [IntKind.wrap_u16]; omega
  have H := Lib.hid h; have HB := Lib.hid hb
  clear h hb
  go_enter Tryz.func133, Tryz.ntmps133
  go_wp2
  refine bodyPost_end (results_none rfl _ _ _) rfl ?_
  exact Done.at H.out ((Only.set g 22 w _).trans (Only.set g 23 _ _)) ((HB.out.set_ 22 _).set_ 23 _) rfl
theorem CpTo.then {g : Nat} {w w1 w2 : World} {sv : Value} {c1 c2 : Cp} (h : CpTo g w sv c1 w1) {sv1 : Value} (h1 : SvTo w sv sv1) (h2 : Ch (CpP g sv) w w1) (k : CpTo g w1 sv1 c2 w2) : CpTo g w sv c2 w2 := CpTo.step h1 h2 k
/-- ldi, ldd: what is copied -/
def Cp.copied1 (c : Cp) : Cp := c.withR (c.r.putPair 0 0 ((c.r.pair 0 0 - 1) % 65536))
def Cp.copied2 (c : Cp) : Cp := c.copied1.withR (c.copied1.r.putPair 1 0 ((c.copied1.r.pair 1 0 + alongV c.code) % 65536))
def Cp.copied3 (c : Cp) : Cp := c.copied2.withR (c.copied2.r.putPair 2 0 ((c.copied2.r.pair 2 0 + alongV c.code) % 65536))
def Cp.copied (c : Cp) : Cp := c.copied3.setF (copyV c.r.a c.lo ((c.r.pair 0 0 - 1) % 65536) c.r.f)
theorem ok_putPair {r : Rg} (h : r.Ok) (k ix v : Int) (hv : B16 v) : (r.putPair k ix v).Ok := by
  have h1 := b8_hi hv; have h2 := b8_lo hv
  unfold Rg.putPair
  repeat' split
  all_goals first
    | exact { h with b := h1, c := h2 } | exact { h with d := h1, e := h2 } | exact { h with h := h1, l := h2 } | exact { h with ix := hv } | exact { h with iy := hv } | exact { h with sp := hv } | exact h
/-- a processor does this, and is that -/
def Does (f : FuncId) (args : Array Value) (g : Nat) (c d : Cp) : Prop := ∀ (w : World) (sv : Value), CpAt w g sv c → Calls Tryz.prog f args w (Done (.tuple #[]) g w sv d)
def Says (f : FuncId) (args : Array Value) (g : Nat) (c : Cp) (v : Value) : Prop := ∀ (w : World) (sv : Value), CpAt w g sv c → Calls Tryz.prog f args w fun e w' => e = .returned v ∧ Drew w w'
set_option maxRecDepth 100000 in
set_option maxHeartbeats 8000000 in
theorem blocks_copyG (g : Nat) (sv : Value) (c d1 d2 d3 d4 : Cp) (al p0 q0 p1 q1 p2 q2 F : Int) (w : World) (h : CpAt w g sv c)
    (hal : Says 129 #[.pointer (some ⟨g, 0, none⟩)] g c (.int .u16 al))
    (hp0 : Says 44 #[.pointer (some ⟨g, 0, none⟩), .int .i64 0, .int .i64 0] g c (.int .u16 p0))
    (hq0 : Does 65 #[.pointer (some ⟨g, 0, none⟩), .int .i64 0, .int .i64 0, .int .u16 q0] g c d1)
    (hp1 : Says 44 #[.pointer (some ⟨g, 0, none⟩), .int .i64 1, .int .i64 0] g d1 (.int .u16 p1))
    (hq1 : Does 65 #[.pointer (some ⟨g, 0, none⟩), .int .i64 1, .int .i64 0, .int .u16 q1] g d1 d2)
    (hp2 : Says 44 #[.pointer (some ⟨g, 0, none⟩), .int .i64 2, .int .i64 0] g d2 (.int .u16 p2))
    (hq2 : Does 65 #[.pointer (some ⟨g, 0, none⟩), .int .i64 2, .int .i64 0, .int .u16 q2] g d2 d3)
    (hcp : ∀ w, Calls Tryz.prog 130 #[.int .u8 d3.r.a, .int .u8 d3.lo, .int .u16 q0, .int .u8 d3.r.f] w fun e w' => e = .returned (.int .u8 F) ∧ w = w')
    (hst : Does 69 #[.pointer (some ⟨g, 0, none⟩), .int .u8 F] g d3 d4)
    (w1 : IntKind.u16.wrap (p0 - 1) = q0) (w2 : IntKind.u16.wrap (p1 + al) = q1) (w3 : IntKind.u16.wrap (p2 + al) = q2) :
    Calls Tryz.prog 86 #[.pointer (some ⟨g, 0, none⟩), .int .i64 52] w (Done (.tuple #[]) g w sv d4) := by
  have H := Lib.hid h; have HAL := Lib.hid hal; have HP0 := Lib.hid hp0; have HQ0 := Lib.hid hq0; have HP1 := Lib.hid hp1; have HQ1 := Lib.hid hq1; have HP2 := Lib.hid hp2; have HQ2 := Lib.hid hq2; have HCP := Lib.hid hcp; have HST := Lib.hid hst
  clear h hal hp0 hq0 hp1 hq1 hp2 hq2 hcp hst
  go_enter Tryz.func86, Tryz.ntmps86
  go_upto_region 15 with (first
    | (go_at_call 129; refine (HAL.out _ _ H.out).mono ?_; rintro e u1 ⟨rfl, h1⟩; have HD1 := Lib.hid h1; have H1 := Lib.hid (H.out.drewAt h1); clear h1)
    | (go_at_call 44; refine (HP0.out _ _ H1.out).mono ?_; rintro e u2 ⟨rfl, h1⟩; have HD2 := Lib.hid h1; have H2 := Lib.hid (H1.out.drewAt h1); clear h1))
  go_upto_region 16 with (first
    | (go_at_call 65; refine (HQ0.out _ _ H2.out).mono ?_; rintro e u3 ⟨rfl, sv3, h1, h2, h3⟩; have H3 := Lib.hid h1; have HS3 := Lib.hid h2; have HC3 := Lib.hid h3; clear h1 h2 h3))
  go_upto_region 17 with (first
    | (go_at_call 65; refine (HQ1.out _ _ H4.out).mono ?_; rintro e u5 ⟨rfl, sv5, h1, h2, h3⟩; have H5 := Lib.hid h1; have HS5 := Lib.hid h2; have HC5 := Lib.hid h3; clear h1 h2 h3)
    | (go_at_call 44; refine (HP1.out _ _ H3.out).mono ?_; rintro e u4 ⟨rfl, h1⟩; have HD4 := Lib.hid h1; have H4 := Lib.hid (H3.out.drewAt h1); clear h1))
  go_upto_region 18 with (first
    | (go_at_call 65; refine (HQ2.out _ _ H6.out).mono ?_; rintro e u7 ⟨rfl, sv7, h1, h2, h3⟩; have H7 := Lib.hid h1; have HS7 := Lib.hid h2; have HC7 := Lib.hid h3; clear h1 h2 h3)
    | (go_at_call 44; refine (HP2.out _ _ H5.out).mono ?_; rintro e u6 ⟨rfl, h1⟩; have HD6 := Lib.hid h1; have H6 := Lib.hid (H5.out.drewAt h1); clear h1))
  have c0 : u7.cell? ⟨g, 0, none⟩ = some (.int .u8 d3.r.a) := H7.out.blk.cell 0
  have c1 : u7.cell? ⟨g, 1, none⟩ = some (.int .u8 d3.r.f) := H7.out.blk.cell 1
  have c36 : u7.cell? ⟨g, 36, none⟩ = some (.int .u8 d3.lo) := H7.out.blk.cell 36
  refine wp_region_still_tail 16 (by kernel_rfl) (by kernel_rfl) ?_
  simp only [List.take_succ_cons, List.take_zero, List.drop_succ_cons, List.drop_zero]
  repeat (first | still_step | still_call (same_swap (HCP.out _)))
  refine wpStill_nil ?_
  change wpList _ _ _ _ _ u7.drew
  obtain ⟨u8, hu8⟩ : ∃ u8, u8 = u7.drew := ⟨_, rfl⟩
  rw [← hu8]
  have HD8 : Hid (Drew u7 u8) := Lib.hid ⟨1, hu8⟩
  have H8 : Hid (CpAt u8 g sv7 d3) := Lib.hid (H7.out.drewAt HD8.out)
  clear hu8 c0 c1 c36
  go_wp2_with (first
    | (go_at_call 69; refine (HST.out _ _ H8.out).mono ?_; rintro e u9 ⟨rfl, h9⟩))
  refine bodyPost_end (results_none rfl _ _ _) rfl ⟨rfl, ?_⟩
  exact CpTo.step (.inl rfl) (Drew.ch HD1.out) (CpTo.step (.inl rfl) (Drew.ch HD2.out) (CpTo.step HS3.out HC3.out (CpTo.step (.inl rfl) (Drew.ch HD4.out) (CpTo.step HS5.out HC5.out (CpTo.step (.inl rfl) (Drew.ch HD6.out) (CpTo.step HS7.out HC7.out (CpTo.step (.inl rfl) (Drew.ch HD8.out) h9)))))))
theorem same_drew {w w' : World} (h : w = w') : Drew w w' := ⟨0, h.symm⟩
theorem blocks_copy (g : Nat) (sv : Value) (c : Cp) (w : World) (h : CpAt w g sv c) (ho : c.Ok) :
    Calls Tryz.prog 86 #[.pointer (some ⟨g, 0, none⟩), .int .i64 52] w (Done (.tuple #[]) g w sv c.copied) := by
  have o1 : c.copied1.Ok := ok_withR ho (ok_putPair ho.r _ _ _ (b16_mod _))
  have o2 : c.copied2.Ok := ok_withR o1 (ok_putPair o1.r _ _ _ (b16_mod _))
  have o3 : c.copied3.Ok := ok_withR o2 (ok_putPair o2.r _ _ _ (b16_mod _))
  refine blocks_copyG g sv c c.copied1 c.copied2 c.copied3 c.copied (alongV c.code) (c.r.pair 0 0) _ (c.copied1.r.pair 1 0) _ (c.copied2.r.pair 2 0) _ (copyV c.r.a c.lo ((c.r.pair 0 0 - 1) % 65536) c.r.f) w h ?_ ?_ ?_ ?_ ?_ ?_ ?_ ?_ ?_ (IntKind.wrap_u16 _) (IntKind.wrap_u16 _) (IntKind.wrap_u16 _)
  · exact fun w sv h => (cp_along g sv c w h ho).mono fun e w' ⟨h1, h2⟩ => ⟨h1, same_drew h2⟩
  · exact fun w sv h => cp_pair g sv c 0 0 w h ho
  · exact fun w sv h => cp_putPair g sv c 0 0 _ w h (b16_mod _)
  · exact fun w sv h => cp_pair g sv _ 1 0 w h o1
  · exact fun w sv h => cp_putPair g sv _ 1 0 _ w h (b16_mod _)
  · exact fun w sv h => cp_pair g sv _ 2 0 w h o2
  · exact fun w sv h => cp_putPair g sv _ 2 0 _ w h (b16_mod _)
  · exact fun w => copy_any c.r.a c.lo ((c.r.pair 0 0 - 1) % 65536) c.r.f w ho.r.a ho.lo
  · exact fun w sv h => cp_set g sv _ _ w h
/-- ldir goes on: back to itself -/
def Cp.backed (c : Cp) : Cp := (c.withR { c.r with pc := (c.r.pc - 2) % 65536, wz := (c.r.pc - 2 + 1) % 65536 }).setF (againV c.r.f ((c.r.pc - 2) % 65536))
set_option maxRecDepth 100000 in
set_option maxHeartbeats 8000000 in
theorem blocks_backG (g : Nat) (sv : Value) (c d1 d2 : Cp) (al p0 F : Int) (w : World) (h : CpAt w g sv c)
    (hal : Says 129 #[.pointer (some ⟨g, 0, none⟩)] g c (.int .u16 al))
    (hp0 : Says 44 #[.pointer (some ⟨g, 0, none⟩), .int .i64 0, .int .i64 0] g c (.int .u16 p0))
    (hag : Does 133 #[.pointer (some ⟨g, 0, none⟩)] g c d1)
    (hcp : ∀ w, Calls Tryz.prog 134 #[.int .u8 d1.r.f, .int .u16 d1.r.pc] w fun e w' => e = .returned (.int .u8 F) ∧ w = w')
    (hst : Does 69 #[.pointer (some ⟨g, 0, none⟩), .int .u8 F] g d1 d2) :
    Calls Tryz.prog 86 #[.pointer (some ⟨g, 0, none⟩), .int .i64 57] w (Done (.tuple #[]) g w sv d2) := by
  have H := Lib.hid h; have HAL := Lib.hid hal; have HP0 := Lib.hid hp0; have HAG := Lib.hid hag; have HCP := Lib.hid hcp; have HST := Lib.hid hst
  clear h hal hp0 hag hcp hst
  go_enter Tryz.func86, Tryz.ntmps86
  go_upto_region 37 with (first
    | (go_at_call 129; refine (HAL.out _ _ H.out).mono ?_; rintro e u1 ⟨rfl, h1⟩; have HD1 := Lib.hid h1; have H1 := Lib.hid (H.out.drewAt h1); clear h1)
    | (go_at_call 44; refine (HP0.out _ _ H1.out).mono ?_; rintro e u2 ⟨rfl, h1⟩; have HD2 := Lib.hid h1; have H2 := Lib.hid (H1.out.drewAt h1); clear h1)
    | (go_at_call 133; refine (HAG.out _ _ H2.out).mono ?_; rintro e u7 ⟨rfl, sv7, h1, h2, h3⟩; have H7 := Lib.hid h1; have HS7 := Lib.hid h2; have HC7 := Lib.hid h3; clear h1 h2 h3))
  have c1 : u7.cell? ⟨g, 1, none⟩ = some (.int .u8 d1.r.f) := H7.out.blk.cell 1
  have c22 : u7.cell? ⟨g, 22, none⟩ = some (.int .u16 d1.r.pc) := H7.out.blk.cell 22
  refine wp_region_still_tail 10 (by kernel_rfl) (by kernel_rfl) ?_
  simp only [List.take_succ_cons, List.take_zero, List.drop_succ_cons, List.drop_zero]
  repeat (first | still_step | still_call (same_swap (HCP.out _)))
  refine wpStill_nil ?_
  change wpList _ _ _ _ _ u7.drew
  obtain ⟨u8, hu8⟩ : ∃ u8, u8 = u7.drew := ⟨_, rfl⟩
  rw [← hu8]
  have HD8 : Hid (Drew u7 u8) := Lib.hid ⟨1, hu8⟩
  have H8 : Hid (CpAt u8 g sv7 d1) := Lib.hid (H7.out.drewAt HD8.out)
  clear hu8 c1 c22
  go_wp2_with (first
    | (go_at_call 69; refine (HST.out _ _ H8.out).mono ?_; rintro e u9 ⟨rfl, h9⟩))
  refine bodyPost_end (results_none rfl _ _ _) rfl ⟨rfl, ?_⟩
  exact CpTo.step (.inl rfl) (Drew.ch HD1.out) (CpTo.step (.inl rfl) (Drew.ch HD2.out) (CpTo.step HS7.out HC7.out (CpTo.step (.inl rfl) (Drew.ch HD8.out) h9)))
theorem ok_backed1 {c : Cp} (ho : c.Ok) : (c.withR { c.r with pc := (c.r.pc - 2) % 65536, wz := (c.r.pc - 2 + 1) % 65536 }).Ok := ok_withR ho { ho.r with pc := b16_mod _, wz := b16_mod _ }
theorem blocks_back (g : Nat) (sv : Value) (c : Cp) (w : World) (h : CpAt w g sv c) (ho : c.Ok) :
    Calls Tryz.prog 86 #[.pointer (some ⟨g, 0, none⟩), .int .i64 57] w (Done (.tuple #[]) g w sv c.backed) := by
  refine blocks_backG g sv c (c.withR { c.r with pc := (c.r.pc - 2) % 65536, wz := (c.r.pc - 2 + 1) % 65536 }) c.backed (alongV c.code) (c.r.pair 0 0) (againV c.r.f ((c.r.pc - 2) % 65536)) w h ?_ ?_ ?_ ?_ ?_
  · exact fun w sv h => (cp_along g sv c w h ho).mono fun e w' ⟨h1, h2⟩ => ⟨h1, same_drew h2⟩
  · exact fun w sv h => cp_pair g sv c 0 0 w h ho
  · exact fun w sv h => cp_again g sv c w h
  · exact fun w => again_any _ _ w (b16_mod _)
  · exact fun w sv h => cp_set g sv _ _ w h
set_option maxRecDepth 100000 in
set_option maxHeartbeats 4000000 in
theorem work_blocks (k : Int) (g : Nat) (sv : Value) (c d : Cp) (p : Int) (w : World) (hk : k = 52 ∨ k = 57) (h : CpAt w g sv c)
    (hp : Says 44 #[.pointer (some ⟨g, 0, none⟩), .int .i64 2, .int .i64 0] g c (.int .u16 p))
    (hb : Does 86 #[.pointer (some ⟨g, 0, none⟩), .int .i64 k] g c d) :
    Calls Tryz.prog 40 #[.pointer (some ⟨g, 0, none⟩), .int .i64 k] w (Done (.tuple #[]) g w sv d) := by
  have HM : Hid (Does 47 #[.pointer (some ⟨g, 0, none⟩), .int .i64 k] g c d) := by
    refine Lib.hid (fun w sv h => ?_)
    have H := Lib.hid h; have HP := Lib.hid hp; have HB := Lib.hid hb
    clear h hp hb
    rcases hk with rfl | rfl
    all_goals
      go_enter Tryz.func47, Tryz.ntmps47
      go_wp2_with (first
        | (go_at_call 44; refine (HP.out _ _ H.out).mono ?_; rintro e u1 ⟨rfl, h1⟩; have HD1 := Lib.hid h1; have H1 := Lib.hid (H.out.drewAt h1); clear h1)
        | (go_at_call 86; refine (HB.out _ _ H1.out).mono ?_; rintro e u2 ⟨rfl, h2⟩))
      exact bodyPost_ret (results_none rfl _ _ _) rfl ⟨rfl, CpTo.step (.inl rfl) (Drew.ch HD1.out) h2⟩
  have H := Lib.hid h
  clear h hp hb
  rcases hk with rfl | rfl
  all_goals
    go_enter Tryz.func40, Tryz.ntmps40
    go_wp2_with (first
      | (go_at_call 47; refine (HM.out _ _ H.out).mono ?_; rintro e u2 ⟨rfl, h2⟩))
    exact bodyPost_end (results_none rfl _ _ _) rfl ⟨rfl, h2⟩
theorem ok_copied {c : Cp} (ho : c.Ok) : c.copied.Ok := by
  have o1 : c.copied1.Ok := ok_withR ho (ok_putPair ho.r _ _ _ (b16_mod _))
  have o2 : c.copied2.Ok := ok_withR o1 (ok_putPair o1.r _ _ _ (b16_mod _))
  have o3 : c.copied3.Ok := ok_withR o2 (ok_putPair o2.r _ _ _ (b16_mod _))
  refine ok_setF o3 ?_
  unfold copyV withV
  split
  · exact b8_bits _ _ _
  · exact b8_bits _ _ _
theorem workOk_copy (c : Cp) (ho : c.Ok) : WorkOk 52 c c.copied :=
  ⟨ok_copied ho, fun g sv w h => work_blocks 52 g sv c _ (c.r.pair 2 0) w (.inl rfl) h (fun w sv h => cp_pair g sv c 2 0 w h ho) (fun w sv h => blocks_copy g sv c w h ho)⟩
theorem workOk_back (c : Cp) (ho : c.Ok) : WorkOk 57 c c.backed :=
  ⟨ok_setF (ok_backed1 ho) (b8_bits _ _ _), fun g sv w h => work_blocks 57 g sv c _ (c.r.pair 2 0) w (.inr rfl) h (fun w sv h => cp_pair g sv c 2 0 w h ho) (fun w sv h => blocks_back g sv c w h ho)⟩
end Go.Proofs.YtbhpmnhlmeglcaaGreat
