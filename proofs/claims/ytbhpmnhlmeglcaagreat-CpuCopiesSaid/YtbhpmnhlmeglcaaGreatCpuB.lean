/- cpu: where a step's cycle is. -/
import Derived.Test.YtbhpmnhlmeglcaaGreatCpuA
namespace Go.Proofs.YtbhpmnhlmeglcaaGreat
set_option linter.unusedSimpArgs false
set_option linter.unusedVariables false
open Go.RowKit
theorem CpAt.drew {w w' : World} {g : Nat} {sv : Value} {c : Cp} (h : CpAt w g sv c) (hd : Drew w w') : CpTo g w sv c w' := by
  obtain ⟨n, rfl⟩ := hd
  exact ⟨sv, ⟨h.blk.drewN n, own_keepC h.own fun k _ => rfl⟩, .inl rfl, ⟨rfl, rfl, rfl, Nat.le_refl _, fun _ _ _ => rfl⟩⟩
theorem CpAt.same {w : World} {g : Nat} {sv : Value} {c : Cp} (h : CpAt w g sv c) : CpTo g w sv c w := ⟨sv, h, .inl rfl, Ch.refl _ _⟩
/-- a step's place, and what it does to the processor -/
def Cp.placeV (c : Cp) (p : Int) : Int :=
  if p = 0 then c.r.pc else if p = 1 then c.ea else if p = 2 then c.r.pair 0 0 else if p = 3 then c.r.pair 1 0 else if p = 4 then c.r.sp else if p = 5 then (c.r.sp - 1) % 65536 else if p = 6 then c.r.sp else if p = 7 then c.r.wz else if p = 8 then c.r.i * 256 + c.r.r else c.addr
def Cp.placeC (c : Cp) (p : Int) : Cp :=
  if p = 0 then { c with r := { c.r with pc := (c.r.pc + 1) % 65536 } } else if p = 4 then { c with r := { c.r with sp := (c.r.sp + 1) % 65536 } } else if p = 5 then { c with r := { c.r with sp := (c.r.sp - 1) % 65536 } } else c
set_option maxHeartbeats 2000000 in
theorem cp_place0 (g : Nat) (sv : Value) (c : Cp) (w : World) (h : CpAt w g sv c) (ho : c.Ok) :
    Calls Tryz.prog 52 #[.pointer (some ⟨g, 0, none⟩), .int .i64 0] w (Done (.int .u16 (c.placeV 0)) g w sv (c.placeC 0)) := by
  have hb := h.blk
  have HO := Lib.hid ho
  have c22 : w.cell? ⟨g, 22, none⟩ = some (.int .u16 c.r.pc) := hb.cell 22
  have z22 := hb.frozen 22
  have hr := ho.r.pc
  obtain ⟨h0, h1⟩ := hr
  obtain ⟨x, hx⟩ : ∃ x, x = (c.r.pc + 1) % 65536 := ⟨_, rfl⟩
  have e1 : IntKind.u16.wrap (c.r.pc + 1) = x := by rw [IntKind.wrap_u16, hx]
  have e2 : IntKind.u16.wrap (x - 1) = c.r.pc := by rw [IntKind.wrap_u16, hx]; omega
  have hv : c.placeV 0 = c.r.pc := by simp [Cp.placeV]
  have hc : c.placeC 0 = { c with r := { c.r with pc := x } } := by rw [hx]; simp [Cp.placeC]
  rw [hv, hc]
  clear hv hc hx h0 h1 ho
  have H := Lib.hid h; have HB := Lib.hid hb
  clear h hb
  go_enter Tryz.func52, Tryz.ntmps52
  go_wp2
  go_ret
  exact Done.at H.out (Only.set g 22 w _) (HB.out.set_ 22 _) rfl
set_option maxHeartbeats 2000000 in
theorem cp_place1 (g : Nat) (sv : Value) (c : Cp) (w : World) (h : CpAt w g sv c) (ho : c.Ok) :
    Calls Tryz.prog 52 #[.pointer (some ⟨g, 0, none⟩), .int .i64 1] w (Done (.int .u16 (c.placeV 1)) g w sv (c.placeC 1)) := by
  have hb := h.blk
  have HO := Lib.hid ho
  have c38 : w.cell? ⟨g, 38, none⟩ = some (.int .u16 c.ea) := hb.cell 38
  have hv : c.placeV 1 = c.ea := by simp [Cp.placeV]
  have hc : c.placeC 1 = c := by simp [Cp.placeC]
  rw [hv, hc]
  clear hv hc ho
  have H := Lib.hid h; have HB := Lib.hid hb
  clear h hb
  go_enter Tryz.func52, Tryz.ntmps52
  go_wp2
  go_ret
  exact ⟨rfl, H.out.same⟩
set_option maxHeartbeats 2000000 in
theorem cp_place2 (g : Nat) (sv : Value) (c : Cp) (w : World) (h : CpAt w g sv c) (ho : c.Ok) :
    Calls Tryz.prog 52 #[.pointer (some ⟨g, 0, none⟩), .int .i64 2] w (Done (.int .u16 (c.placeV 2)) g w sv (c.placeC 2)) := by
  have hb := h.blk
  have HO := Lib.hid ho
  have hv : c.placeV 2 = c.r.pair 0 0 := by simp [Cp.placeV]
  have hc : c.placeC 2 = c := by simp [Cp.placeC]
  rw [hv, hc]
  clear hv hc ho
  have H := Lib.hid h; have HB := Lib.hid hb
  clear h hb
  go_enter Tryz.func52, Tryz.ntmps52
  go_wp2_with (first
    | (go_at_call 44; refine (pair_any c.r 46 (c.tail sv) g 0 0 _ HB.out HO.out.r).mono ?_; rintro e w' ⟨rfl, hd⟩))
  go_ret
  exact ⟨rfl, H.out.drew hd⟩
set_option maxHeartbeats 2000000 in
theorem cp_place3 (g : Nat) (sv : Value) (c : Cp) (w : World) (h : CpAt w g sv c) (ho : c.Ok) :
    Calls Tryz.prog 52 #[.pointer (some ⟨g, 0, none⟩), .int .i64 3] w (Done (.int .u16 (c.placeV 3)) g w sv (c.placeC 3)) := by
  have hb := h.blk
  have HO := Lib.hid ho
  have hv : c.placeV 3 = c.r.pair 1 0 := by simp [Cp.placeV]
  have hc : c.placeC 3 = c := by simp [Cp.placeC]
  rw [hv, hc]
  clear hv hc ho
  have H := Lib.hid h; have HB := Lib.hid hb
  clear h hb
  go_enter Tryz.func52, Tryz.ntmps52
  go_wp2_with (first
    | (go_at_call 44; refine (pair_any c.r 46 (c.tail sv) g 1 0 _ HB.out HO.out.r).mono ?_; rintro e w' ⟨rfl, hd⟩))
  go_ret
  exact ⟨rfl, H.out.drew hd⟩
set_option maxHeartbeats 2000000 in
theorem cp_place4 (g : Nat) (sv : Value) (c : Cp) (w : World) (h : CpAt w g sv c) (ho : c.Ok) :
    Calls Tryz.prog 52 #[.pointer (some ⟨g, 0, none⟩), .int .i64 4] w (Done (.int .u16 (c.placeV 4)) g w sv (c.placeC 4)) := by
  have hb := h.blk
  have HO := Lib.hid ho
  have c21 : w.cell? ⟨g, 21, none⟩ = some (.int .u16 c.r.sp) := hb.cell 21
  have z21 := hb.frozen 21
  have hr := ho.r.sp
  obtain ⟨h0, h1⟩ := hr
  obtain ⟨x, hx⟩ : ∃ x, x = (c.r.sp + 1) % 65536 := ⟨_, rfl⟩
  have e1 : IntKind.u16.wrap (c.r.sp + 1) = x := by rw [IntKind.wrap_u16, hx]
  have e2 : IntKind.u16.wrap (x - 1) = c.r.sp := by rw [IntKind.wrap_u16, hx]; omega
  have hv : c.placeV 4 = c.r.sp := by simp [Cp.placeV]
  have hc : c.placeC 4 = { c with r := { c.r with sp := x } } := by rw [hx]; simp [Cp.placeC]
  rw [hv, hc]
  clear hv hc hx h0 h1 ho
  have H := Lib.hid h; have HB := Lib.hid hb
  clear h hb
  go_enter Tryz.func52, Tryz.ntmps52
  go_wp2
  go_ret
  exact Done.at H.out (Only.set g 21 w _) (HB.out.set_ 21 _) rfl
set_option maxHeartbeats 2000000 in
theorem cp_place5 (g : Nat) (sv : Value) (c : Cp) (w : World) (h : CpAt w g sv c) (ho : c.Ok) :
    Calls Tryz.prog 52 #[.pointer (some ⟨g, 0, none⟩), .int .i64 5] w (Done (.int .u16 (c.placeV 5)) g w sv (c.placeC 5)) := by
  have hb := h.blk
  have HO := Lib.hid ho
  have c21 : w.cell? ⟨g, 21, none⟩ = some (.int .u16 c.r.sp) := hb.cell 21
  have z21 := hb.frozen 21
  obtain ⟨x, hx⟩ : ∃ x, x = (c.r.sp - 1) % 65536 := ⟨_, rfl⟩
  have e1 : IntKind.u16.wrap (c.r.sp - 1) = x := by rw [IntKind.wrap_u16, hx]
  have hv : c.placeV 5 = x := by rw [hx]; simp [Cp.placeV]
  have hc : c.placeC 5 = { c with r := { c.r with sp := x } } := by rw [hx]; simp [Cp.placeC]
  rw [hv, hc]
  clear hv hc hx ho
  have H := Lib.hid h; have HB := Lib.hid hb
  clear h hb
  go_enter Tryz.func52, Tryz.ntmps52
  go_wp2
  go_ret
  exact Done.at H.out (Only.set g 21 w _) (HB.out.set_ 21 _) rfl
set_option maxHeartbeats 2000000 in
theorem cp_place6 (g : Nat) (sv : Value) (c : Cp) (w : World) (h : CpAt w g sv c) (ho : c.Ok) :
    Calls Tryz.prog 52 #[.pointer (some ⟨g, 0, none⟩), .int .i64 6] w (Done (.int .u16 (c.placeV 6)) g w sv (c.placeC 6)) := by
  have hb := h.blk
  have HO := Lib.hid ho
  have c21 : w.cell? ⟨g, 21, none⟩ = some (.int .u16 c.r.sp) := hb.cell 21
  have hv : c.placeV 6 = c.r.sp := by simp [Cp.placeV]
  have hc : c.placeC 6 = c := by simp [Cp.placeC]
  rw [hv, hc]
  clear hv hc ho
  have H := Lib.hid h; have HB := Lib.hid hb
  clear h hb
  go_enter Tryz.func52, Tryz.ntmps52
  go_wp2
  go_ret
  exact ⟨rfl, H.out.same⟩
set_option maxHeartbeats 2000000 in
theorem cp_place7 (g : Nat) (sv : Value) (c : Cp) (w : World) (h : CpAt w g sv c) (ho : c.Ok) :
    Calls Tryz.prog 52 #[.pointer (some ⟨g, 0, none⟩), .int .i64 7] w (Done (.int .u16 (c.placeV 7)) g w sv (c.placeC 7)) := by
  have hb := h.blk
  have HO := Lib.hid ho
  have c23 : w.cell? ⟨g, 23, none⟩ = some (.int .u16 c.r.wz) := hb.cell 23
  have hv : c.placeV 7 = c.r.wz := by simp [Cp.placeV]
  have hc : c.placeC 7 = c := by simp [Cp.placeC]
  rw [hv, hc]
  clear hv hc ho
  have H := Lib.hid h; have HB := Lib.hid hb
  clear h hb
  go_enter Tryz.func52, Tryz.ntmps52
  go_wp2
  go_ret
  exact ⟨rfl, H.out.same⟩
set_option maxHeartbeats 2000000 in
theorem cp_place8 (g : Nat) (sv : Value) (c : Cp) (w : World) (h : CpAt w g sv c) (ho : c.Ok) :
    Calls Tryz.prog 52 #[.pointer (some ⟨g, 0, none⟩), .int .i64 8] w (Done (.int .u16 (c.placeV 8)) g w sv (c.placeC 8)) := by
  have hb := h.blk
  have HO := Lib.hid ho
  have hv : c.placeV 8 = c.r.i * 256 + c.r.r := by simp [Cp.placeV]
  have hc : c.placeC 8 = c := by simp [Cp.placeC]
  rw [hv, hc]
  clear hv hc ho
  have H := Lib.hid h; have HB := Lib.hid hb
  clear h hb
  go_enter Tryz.func52, Tryz.ntmps52
  go_wp2_with (first
    | (go_at_call 87; refine (ir_any c.r 46 (c.tail sv) g _ HB.out HO.out.r).mono ?_; rintro e w' ⟨rfl, hd⟩))
  go_ret
  exact ⟨rfl, H.out.drew hd⟩
set_option maxHeartbeats 2000000 in
theorem cp_place9 (g : Nat) (sv : Value) (c : Cp) (w : World) (h : CpAt w g sv c) (ho : c.Ok) :
    Calls Tryz.prog 52 #[.pointer (some ⟨g, 0, none⟩), .int .i64 9] w (Done (.int .u16 (c.placeV 9)) g w sv (c.placeC 9)) := by
  have hb := h.blk
  have HO := Lib.hid ho
  have c45 : w.cell? ⟨g, 45, none⟩ = some (.int .u16 c.addr) := hb.cell 45
  have hv : c.placeV 9 = c.addr := by simp [Cp.placeV]
  have hc : c.placeC 9 = c := by simp [Cp.placeC]
  rw [hv, hc]
  clear hv hc ho
  have H := Lib.hid h; have HB := Lib.hid hb
  clear h hb
  go_enter Tryz.func52, Tryz.ntmps52
  go_wp2
  go_ret
  exact ⟨rfl, H.out.same⟩
theorem cp_place (g : Nat) (sv : Value) (c : Cp) (p : Int) (w : World) (h : CpAt w g sv c) (ho : c.Ok) (hp : 0 ≤ p ∧ p ≤ 9) :
    Calls Tryz.prog 52 #[.pointer (some ⟨g, 0, none⟩), .int .i64 p] w (Done (.int .u16 (c.placeV p)) g w sv (c.placeC p)) := by
  have hk : p = 0 ∨ p = 1 ∨ p = 2 ∨ p = 3 ∨ p = 4 ∨ p = 5 ∨ p = 6 ∨ p = 7 ∨ p = 8 ∨ p = 9 := by omega
  rcases hk with rfl | rfl | rfl | rfl | rfl | rfl | rfl | rfl | rfl | rfl
  · exact cp_place0 g sv c w h ho
  · exact cp_place1 g sv c w h ho
  · exact cp_place2 g sv c w h ho
  · exact cp_place3 g sv c w h ho
  · exact cp_place4 g sv c w h ho
  · exact cp_place5 g sv c w h ho
  · exact cp_place6 g sv c w h ho
  · exact cp_place7 g sv c w h ho
  · exact cp_place8 g sv c w h ho
  · exact cp_place9 g sv c w h ho
end Go.Proofs.YtbhpmnhlmeglcaaGreat
