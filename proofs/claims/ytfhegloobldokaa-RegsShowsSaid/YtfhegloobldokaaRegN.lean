/- squealref06: List. -/
import Derived.Test.YtfhegloobldokaaRegM
namespace Go.Proofs.Ytfhegloobldokaa
set_option linter.unusedSimpArgs false
set_option linter.unusedVariables false
open Go.RowKit
/-- the bytes of numbers 0 to 7 -/
def Rg.list (r : Rg) (ix : Int) : List Value := [.int .u8 r.b, .int .u8 r.c, .int .u8 r.d, .int .u8 r.e, .int .u8 (r.byte 4 ix), .int .u8 (r.byte 5 ix), .int .u8 0, .int .u8 r.a]
/-- a list of eight bytes is handed back, in new memory -/
def Eight (l : List Value) (w : World) (e : Ending) (w' : World) : Prop := ∃ g : Nat, e = .returned (.slice (some ⟨g, 0, none⟩) 8 8) ∧ Blk w' g 5 l ∧ w.heap.size ≤ g ∧ Below w.heap.size w w'
set_option maxRecDepth 100000 in
set_option maxHeartbeats 4000000 in
theorem list_any (r : Rg) (hr : r.Ok) (C : Array Value) (hC : C = r.cells.toArray) (ix : Int) (w : World) :
    Calls Try.prog 26 #[.agg C, .int .i64 ix] w (Eight (r.list ix) w) := by
  obtain ⟨V, hV, fV, BV, sV⟩ := copied w C 24
  have bV : Blk V w.heap.size 24 r.cells := by
    have h := fV
    rw [hC] at h
    exact h
  have c6 : V.cell? ⟨w.heap.size, 6, none⟩ = some (.int .u8 r.h) := bV.cell 6
  have c7 : V.cell? ⟨w.heap.size, 7, none⟩ = some (.int .u8 r.l) := bV.cell 7
  have c19 : V.cell? ⟨w.heap.size, 19, none⟩ = some (.int .u16 r.ix) := bV.cell 19
  have c20 : V.cell? ⟨w.heap.size, 20, none⟩ = some (.int .u16 r.iy) := bV.cell 20
  have c2 : V.cell? ⟨w.heap.size, 2, none⟩ = some (.int .u8 r.b) := bV.cell 2
  have c3 : V.cell? ⟨w.heap.size, 3, none⟩ = some (.int .u8 r.c) := bV.cell 3
  have c4 : V.cell? ⟨w.heap.size, 4, none⟩ = some (.int .u8 r.d) := bV.cell 4
  have c5 : V.cell? ⟨w.heap.size, 5, none⟩ = some (.int .u8 r.e) := bV.cell 5
  have c0 : V.cell? ⟨w.heap.size, 0, none⟩ = some (.int .u8 r.a) := bV.cell 0
  have hx := hr.ix
  have hy := hr.iy
  obtain ⟨x0, x1⟩ := hx
  obtain ⟨y0, y1⟩ := hy
  have HV := Lib.hid hV; have HB := Lib.hid BV; have HS := Lib.hid sV
  obtain ⟨R, hR⟩ : ∃ R, R = r.list ix := ⟨_, rfl⟩
  rw [← hR]
  have HR := Lib.hid hR
  clear hR hV BV sV fV bV hr hC
  have kx : ix = 1 ∨ ix = 2 ∨ (ix ≠ 1 ∧ ix ≠ 2) := by omega
  rcases kx with rfl | rfl | ⟨n1, n2⟩
  · go_enter Try.func26, Try.ntmps26
    go_wp2_with fail
    rw [← HV.out]
    go_quiet (fail)
    go_wp2_with fail
    go_ret
    refine ⟨V.heap.size, rfl, ?_, by rw [HS.out]; omega, ((HB.out.mono (Nat.le_refl _)).trans ((Below_drewN (Below.refl _ V) _).mono HB.out.size)).alloc (by show _ ≤ V.heap.size; exact HB.out.size) _⟩
    have e : R = [.int .u8 r.b, .int .u8 r.c, .int .u8 r.d, .int .u8 r.e, .int .u8 (r.ix / 256), .int .u8 (r.ix % 256), .int .u8 0, .int .u8 r.a] := by rw [HR.out]; simp [Rg.list, Rg.byte]
    rw [e]
    exact Blk.new (V.drewN _) _ _
  · go_enter Try.func26, Try.ntmps26
    go_wp2_with fail
    rw [← HV.out]
    go_quiet (fail)
    go_wp2_with fail
    go_ret
    refine ⟨V.heap.size, rfl, ?_, by rw [HS.out]; omega, ((HB.out.mono (Nat.le_refl _)).trans ((Below_drewN (Below.refl _ V) _).mono HB.out.size)).alloc (by show _ ≤ V.heap.size; exact HB.out.size) _⟩
    have e : R = [.int .u8 r.b, .int .u8 r.c, .int .u8 r.d, .int .u8 r.e, .int .u8 (r.iy / 256), .int .u8 (r.iy % 256), .int .u8 0, .int .u8 r.a] := by rw [HR.out]; simp [Rg.list, Rg.byte]
    rw [e]
    exact Blk.new (V.drewN _) _ _
  · have b1 : (ix == 1) = false := by simp [n1]
    have b2 : (ix == 2) = false := by simp [n2]
    go_enter Try.func26, Try.ntmps26
    go_wp2_with fail
    rw [← HV.out]
    go_quiet (fail)
    go_wp2_with fail
    go_ret
    refine ⟨V.heap.size, rfl, ?_, by rw [HS.out]; omega, ((HB.out.mono (Nat.le_refl _)).trans ((Below_drewN (Below.refl _ V) _).mono HB.out.size)).alloc (by show _ ≤ V.heap.size; exact HB.out.size) _⟩
    have e : R = [.int .u8 r.b, .int .u8 r.c, .int .u8 r.d, .int .u8 r.e, .int .u8 (r.h), .int .u8 (r.l), .int .u8 0, .int .u8 r.a] := by rw [HR.out]; simp [Rg.list, Rg.byte, n1, n2]
    rw [e]
    exact Blk.new (V.drewN _) _ _
end Go.Proofs.Ytfhegloobldokaa
