/- regs: Exx, Tick: what they write. -/
import Derived.Test.YtbhpmnhlmeglcaaGreatCrH
namespace Go.Proofs.YtbhpmnhlmeglcaaGreat
set_option linter.unusedSimpArgs false
set_option linter.unusedVariables false
open Go.RowKit
theorem tick_bits : ∀ n < 256, bits .or .u8 (bits .and .u8 (n : Nat) 128) (bits .and .u8 (IntKind.u8.wrap ((n : Nat) + 1)) 127) = ((n / 128 * 128 + (n + 1) % 128 : Nat) : Int) := by decide +kernel
theorem tick_u8 (x : Int) (h : B8 x) : bits .or .u8 (bits .and .u8 x 128) (bits .and .u8 ((x + 1) % 256) 127) = x / 128 * 128 + (x + 1) % 128 := by
  obtain ⟨h0, h1⟩ := h
  obtain ⟨n, rfl⟩ := Int.eq_ofNat_of_zero_le h0
  have h := tick_bits n (by omega)
  rw [IntKind.wrap_u8] at h
  rw [h]
  omega
set_option maxRecDepth 100000 in
set_option maxHeartbeats 4000000 in
theorem tick_any (r : Rg) (T : TypeId) (X : List Value) (g : Nat) (w : World) (hb : Blk w g T (r.cells ++ X)) (hr : B8 r.r) :
    Calls Tryz.prog 37 #[.pointer (some ⟨g, 0, none⟩)] w (Now g T X { r with r := r.r / 128 * 128 + (r.r + 1) % 128 } w) := by
  have HB := Lib.hid hb
  have c17 : w.cell? ⟨g, 17, none⟩ = some (.int .u8 r.r) := hb.cell 17
  have z17 := hb.frozen 17
  clear hb
  have ht := tick_u8 r.r hr
  go_enter Tryz.func37, Tryz.ntmps37
  go_wp2_with fail
  go_region
  go_returns
  exact Now.mk' ((HB.out.set_ 17 _).drew) ((Only.set g 17 w _).drew)
set_option maxRecDepth 100000 in
set_option maxHeartbeats 4000000 in
theorem exx_any (r : Rg) (T : TypeId) (X : List Value) (g : Nat) (w : World) (hb : Blk w g T (r.cells ++ X)) :
    Calls Tryz.prog 72 #[.pointer (some ⟨g, 0, none⟩)] w (Now g T X { r with b := r.b2, b2 := r.b, c := r.c2, c2 := r.c, d := r.d2, d2 := r.d, e := r.e2, e2 := r.e, h := r.h2, h2 := r.h, l := r.l2, l2 := r.l } w) := by
  have HB := Lib.hid hb
  have c2 : w.cell? ⟨g, 2, none⟩ = some (.int .u8 r.b) := hb.cell 2
  have z2 := hb.frozen 2
  have c10 : w.cell? ⟨g, 10, none⟩ = some (.int .u8 r.b2) := hb.cell 10
  have z10 := hb.frozen 10
  have c3 : w.cell? ⟨g, 3, none⟩ = some (.int .u8 r.c) := hb.cell 3
  have z3 := hb.frozen 3
  have c11 : w.cell? ⟨g, 11, none⟩ = some (.int .u8 r.c2) := hb.cell 11
  have z11 := hb.frozen 11
  clear hb
  obtain ⟨R, hR⟩ : ∃ R : Rg, R = { r with b := r.b2, b2 := r.b, c := r.c2, c2 := r.c, d := r.d2, d2 := r.d, e := r.e2, e2 := r.e, h := r.h2, h2 := r.h, l := r.l2, l2 := r.l } := ⟨_, rfl⟩
  have hR' := Lib.hid hR
  rw [← hR]
  clear hR
  have HO := Only.refl g w
  go_enter Tryz.func72, Tryz.ntmps72
  go_wp2_with fail
  go_region
  have hb : Blk (((((w.setCell ⟨g, 2, none⟩ (.int .u8 r.b2)).setCell ⟨g, 10, none⟩ (.int .u8 r.b)).setCell ⟨g, 3, none⟩ (.int .u8 r.c2)).setCell ⟨g, 11, none⟩ (.int .u8 r.c)).drew) g T ({ r with b := r.b2, b2 := r.b, c := r.c2, c2 := r.c }.cells ++ X) := ((((HB.out.set_ 2 _).set_ 10 _).set_ 3 _).set_ 11 _).drew
  have ho : Only g w (((((w.setCell ⟨g, 2, none⟩ (.int .u8 r.b2)).setCell ⟨g, 10, none⟩ (.int .u8 r.b)).setCell ⟨g, 3, none⟩ (.int .u8 r.c2)).setCell ⟨g, 11, none⟩ (.int .u8 r.c)).drew) := ((((HO.trans (Only.set g 2 _ _)).trans (Only.set g 10 _ _)).trans (Only.set g 3 _ _)).trans (Only.set g 11 _ _)).drew
  generalize ((((w.setCell ⟨g, 2, none⟩ (.int .u8 r.b2)).setCell ⟨g, 10, none⟩ (.int .u8 r.b)).setCell ⟨g, 3, none⟩ (.int .u8 r.c2)).setCell ⟨g, 11, none⟩ (.int .u8 r.c)).drew = v0 at hb ho ⊢
  clear HB HO c2 z2 c10 z10 c3 z3 c11 z11
  have HB := Lib.hid hb
  have HO := ho
  have c4 : v0.cell? ⟨g, 4, none⟩ = some (.int .u8 r.d) := hb.cell 4
  have z4 := hb.frozen 4
  have c12 : v0.cell? ⟨g, 12, none⟩ = some (.int .u8 r.d2) := hb.cell 12
  have z12 := hb.frozen 12
  have c5 : v0.cell? ⟨g, 5, none⟩ = some (.int .u8 r.e) := hb.cell 5
  have z5 := hb.frozen 5
  have c13 : v0.cell? ⟨g, 13, none⟩ = some (.int .u8 r.e2) := hb.cell 13
  have z13 := hb.frozen 13
  clear hb ho
  go_wp2_with fail
  go_region
  have hb : Blk (((((v0.setCell ⟨g, 4, none⟩ (.int .u8 r.d2)).setCell ⟨g, 12, none⟩ (.int .u8 r.d)).setCell ⟨g, 5, none⟩ (.int .u8 r.e2)).setCell ⟨g, 13, none⟩ (.int .u8 r.e)).drew) g T ({ r with b := r.b2, b2 := r.b, c := r.c2, c2 := r.c, d := r.d2, d2 := r.d, e := r.e2, e2 := r.e }.cells ++ X) := ((((HB.out.set_ 4 _).set_ 12 _).set_ 5 _).set_ 13 _).drew
  have ho : Only g w (((((v0.setCell ⟨g, 4, none⟩ (.int .u8 r.d2)).setCell ⟨g, 12, none⟩ (.int .u8 r.d)).setCell ⟨g, 5, none⟩ (.int .u8 r.e2)).setCell ⟨g, 13, none⟩ (.int .u8 r.e)).drew) := ((((HO.trans (Only.set g 4 _ _)).trans (Only.set g 12 _ _)).trans (Only.set g 5 _ _)).trans (Only.set g 13 _ _)).drew
  generalize ((((v0.setCell ⟨g, 4, none⟩ (.int .u8 r.d2)).setCell ⟨g, 12, none⟩ (.int .u8 r.d)).setCell ⟨g, 5, none⟩ (.int .u8 r.e2)).setCell ⟨g, 13, none⟩ (.int .u8 r.e)).drew = v1 at hb ho ⊢
  clear HB HO c4 z4 c12 z12 c5 z5 c13 z13
  have HB := Lib.hid hb
  have HO := ho
  have c6 : v1.cell? ⟨g, 6, none⟩ = some (.int .u8 r.h) := hb.cell 6
  have z6 := hb.frozen 6
  have c14 : v1.cell? ⟨g, 14, none⟩ = some (.int .u8 r.h2) := hb.cell 14
  have z14 := hb.frozen 14
  have c7 : v1.cell? ⟨g, 7, none⟩ = some (.int .u8 r.l) := hb.cell 7
  have z7 := hb.frozen 7
  have c15 : v1.cell? ⟨g, 15, none⟩ = some (.int .u8 r.l2) := hb.cell 15
  have z15 := hb.frozen 15
  clear hb ho
  go_wp2_with fail
  go_region
  have hb : Blk (((((v1.setCell ⟨g, 6, none⟩ (.int .u8 r.h2)).setCell ⟨g, 14, none⟩ (.int .u8 r.h)).setCell ⟨g, 7, none⟩ (.int .u8 r.l2)).setCell ⟨g, 15, none⟩ (.int .u8 r.l)).drew) g T ({ r with b := r.b2, b2 := r.b, c := r.c2, c2 := r.c, d := r.d2, d2 := r.d, e := r.e2, e2 := r.e, h := r.h2, h2 := r.h, l := r.l2, l2 := r.l }.cells ++ X) := ((((HB.out.set_ 6 _).set_ 14 _).set_ 7 _).set_ 15 _).drew
  have ho : Only g w (((((v1.setCell ⟨g, 6, none⟩ (.int .u8 r.h2)).setCell ⟨g, 14, none⟩ (.int .u8 r.h)).setCell ⟨g, 7, none⟩ (.int .u8 r.l2)).setCell ⟨g, 15, none⟩ (.int .u8 r.l)).drew) := ((((HO.trans (Only.set g 6 _ _)).trans (Only.set g 14 _ _)).trans (Only.set g 7 _ _)).trans (Only.set g 15 _ _)).drew
  go_returns
  rw [hR'.out]
  exact Now.mk' hb ho
end Go.Proofs.YtbhpmnhlmeglcaaGreat
