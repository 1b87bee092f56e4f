/- regs: PutAf, ExAf, ExDe, Exx, PutPair, Tick: what they write. -/
import Derived.Test.YtbhpmnhlmeglcaaGreatCrG
import Derived.BigRegion
namespace Go.Proofs.YtbhpmnhlmeglcaaGreat
set_option linter.unusedSimpArgs false
set_option linter.unusedVariables false
open Go.RowKit
theorem Now.mk' {g : Nat} {T : TypeId} {X : List Value} {r : Rg} {w w' : World} (h : Blk w' g T (r.cells ++ X)) (ho : Only g w w') : Now g T X r w (.returned (.tuple #[])) w' := ⟨rfl, h, ho⟩
set_option maxHeartbeats 1000000 in
theorem putAf_any (r : Rg) (T : TypeId) (X : List Value) (g : Nat) (v : Int) (w : World) (hb : Blk w g T (r.cells ++ X)) (hv : B16 v) :
    Calls Tryz.prog 110 #[.pointer (some ⟨g, 0, none⟩), .int .u16 v] w (Now g T X { r with a := v / 256, f := v % 256 } w) := by
  have HB := Lib.hid hb
  have c0 : w.cell? ⟨g, 0, none⟩ = some (.int .u8 r.a) := hb.cell 0
  have c1 : w.cell? ⟨g, 1, none⟩ = some (.int .u8 r.f) := hb.cell 1
  have z0 := hb.frozen 0
  have z1 := hb.frozen 1
  clear hb
  go_enter Tryz.func110, Tryz.ntmps110
  go_wp2_with (first
    | (go_at_call 76; refine (wideHi_any _ _ hv).mono ?_; rintro e w' ⟨rfl, rfl⟩)
    | (go_at_call 70; refine (wideLo_any _ _ hv).mono ?_; rintro e w' ⟨rfl, rfl⟩))
  go_returns
  exact ⟨rfl, (HB.out.set_ 0 _).set_ 1 _, (Only.set g 0 w _).trans (Only.set g 1 _ _)⟩
set_option maxRecDepth 100000 in
set_option maxHeartbeats 4000000 in
theorem exAf_any (r : Rg) (T : TypeId) (X : List Value) (g : Nat) (w : World) (hb : Blk w g T (r.cells ++ X)) :
    Calls Tryz.prog 63 #[.pointer (some ⟨g, 0, none⟩)] w (Now g T X { r with a := r.a2, a2 := r.a, f := r.f2, f2 := r.f } w) := by
  have HB := Lib.hid hb
  have c0 : w.cell? ⟨g, 0, none⟩ = some (.int .u8 r.a) := hb.cell 0
  have z0 := hb.frozen 0
  have c8 : w.cell? ⟨g, 8, none⟩ = some (.int .u8 r.a2) := hb.cell 8
  have z8 := hb.frozen 8
  have c1 : w.cell? ⟨g, 1, none⟩ = some (.int .u8 r.f) := hb.cell 1
  have z1 := hb.frozen 1
  have c9 : w.cell? ⟨g, 9, none⟩ = some (.int .u8 r.f2) := hb.cell 9
  have z9 := hb.frozen 9
  clear hb
  obtain ⟨R, hR⟩ : ∃ R : Rg, R = { r with a := r.a2, a2 := r.a, f := r.f2, f2 := r.f } := ⟨_, rfl⟩
  have hR' := Lib.hid hR
  rw [← hR]
  clear hR
  go_enter Tryz.func63, Tryz.ntmps63
  go_wp2_with fail
  go_region
  go_returns
  rw [hR'.out]
  exact Now.mk' (((((HB.out.set_ 0 _).set_ 8 _).set_ 1 _).set_ 9 _).drew) (((((((((Only.refl g w).trans (Only.set g 0 _ _))).trans (Only.set g 8 _ _))).trans (Only.set g 1 _ _))).trans (Only.set g 9 _ _)).drew)
set_option maxRecDepth 100000 in
set_option maxHeartbeats 4000000 in
theorem exDe_any (r : Rg) (T : TypeId) (X : List Value) (g : Nat) (w : World) (hb : Blk w g T (r.cells ++ X)) :
    Calls Tryz.prog 74 #[.pointer (some ⟨g, 0, none⟩)] w (Now g T X { r with d := r.h, h := r.d, e := r.l, l := r.e } w) := by
  have HB := Lib.hid hb
  have c4 : w.cell? ⟨g, 4, none⟩ = some (.int .u8 r.d) := hb.cell 4
  have z4 := hb.frozen 4
  have c6 : w.cell? ⟨g, 6, none⟩ = some (.int .u8 r.h) := hb.cell 6
  have z6 := hb.frozen 6
  have c5 : w.cell? ⟨g, 5, none⟩ = some (.int .u8 r.e) := hb.cell 5
  have z5 := hb.frozen 5
  have c7 : w.cell? ⟨g, 7, none⟩ = some (.int .u8 r.l) := hb.cell 7
  have z7 := hb.frozen 7
  clear hb
  obtain ⟨R, hR⟩ : ∃ R : Rg, R = { r with d := r.h, h := r.d, e := r.l, l := r.e } := ⟨_, rfl⟩
  have hR' := Lib.hid hR
  rw [← hR]
  clear hR
  go_enter Tryz.func74, Tryz.ntmps74
  go_wp2_with fail
  go_region
  go_returns
  rw [hR'.out]
  exact Now.mk' (((((HB.out.set_ 4 _).set_ 6 _).set_ 5 _).set_ 7 _).drew) (((((((((Only.refl g w).trans (Only.set g 4 _ _))).trans (Only.set g 6 _ _))).trans (Only.set g 5 _ _))).trans (Only.set g 7 _ _)).drew)
end Go.Proofs.YtbhpmnhlmeglcaaGreat
