/- regs.PutPair. -/
import Derived.Test.YtbhpmnhlmeglcaaGreatCrG
namespace Go.Proofs.YtbhpmnhlmeglcaaGreat
set_option linter.unusedSimpArgs false
set_option linter.unusedVariables false
open Go.RowKit
/-- registers with another pair at a number -/
def Rg.putPair (r : Rg) (k ix v : Int) : Rg :=
  if k = 0 then { r with b := v / 256, c := v % 256 } else if k = 1 then { r with d := v / 256, e := v % 256 } else
  if k = 2 then (if ix = 1 then { r with ix := v } else if ix = 2 then { r with iy := v } else { r with h := v / 256, l := v % 256 }) else if k = 3 then { r with sp := v } else r
set_option maxHeartbeats 1000000 in
theorem pp0 (r : Rg) (T : TypeId) (X : List Value) (g : Nat) (ix : Int) (v : Int) (w : World) (hb : Blk w g T (r.cells ++ X)) (hv : B16 v) :
    Calls Tryz.prog 65 #[.pointer (some ⟨g, 0, none⟩), .int .i64 0, .int .i64 ix, .int .u16 v] w (Now g T X { r with b := v / 256, c := v % 256 } w) := by
  have HB := Lib.hid hb
  have c2 : w.cell? ⟨g, 2, none⟩ = some (.int .u8 r.b) := hb.cell 2
  have z2 := hb.frozen 2
  have c3 : w.cell? ⟨g, 3, none⟩ = some (.int .u8 r.c) := hb.cell 3
  have z3 := hb.frozen 3
  clear hb
  go_enter Tryz.func65, Tryz.ntmps65
  go_wp2_with (first
    | (go_at_call 76; refine (wideHi_any _ _ hv).mono ?_; rintro e w' ⟨rfl, rfl⟩)
    | (go_at_call 70; refine (wideLo_any _ _ hv).mono ?_; rintro e w' ⟨rfl, rfl⟩))
  go_returns
  exact ⟨rfl, (HB.out.set_ 2 _).set_ 3 _, (Only.set g 2 w _).trans (Only.set g 3 _ _)⟩
set_option maxHeartbeats 1000000 in
theorem pp1 (r : Rg) (T : TypeId) (X : List Value) (g : Nat) (ix : Int) (v : Int) (w : World) (hb : Blk w g T (r.cells ++ X)) (hv : B16 v) :
    Calls Tryz.prog 65 #[.pointer (some ⟨g, 0, none⟩), .int .i64 1, .int .i64 ix, .int .u16 v] w (Now g T X { r with d := v / 256, e := v % 256 } w) := by
  have HB := Lib.hid hb
  have c4 : w.cell? ⟨g, 4, none⟩ = some (.int .u8 r.d) := hb.cell 4
  have z4 := hb.frozen 4
  have c5 : w.cell? ⟨g, 5, none⟩ = some (.int .u8 r.e) := hb.cell 5
  have z5 := hb.frozen 5
  clear hb
  go_enter Tryz.func65, Tryz.ntmps65
  go_wp2_with (first
    | (go_at_call 76; refine (wideHi_any _ _ hv).mono ?_; rintro e w' ⟨rfl, rfl⟩)
    | (go_at_call 70; refine (wideLo_any _ _ hv).mono ?_; rintro e w' ⟨rfl, rfl⟩))
  go_returns
  exact ⟨rfl, (HB.out.set_ 4 _).set_ 5 _, (Only.set g 4 w _).trans (Only.set g 5 _ _)⟩
set_option maxHeartbeats 1000000 in
theorem pp2 (r : Rg) (T : TypeId) (X : List Value) (g : Nat) (ix : Int) (v : Int) (w : World) (hb : Blk w g T (r.cells ++ X)) (hv : B16 v) (x1 : ix ≠ 1) (x2 : ix ≠ 2) :
    Calls Tryz.prog 65 #[.pointer (some ⟨g, 0, none⟩), .int .i64 2, .int .i64 ix, .int .u16 v] w (Now g T X { r with h := v / 256, l := v % 256 } w) := by
  have HB := Lib.hid hb
  have c6 : w.cell? ⟨g, 6, none⟩ = some (.int .u8 r.h) := hb.cell 6
  have z6 := hb.frozen 6
  have c7 : w.cell? ⟨g, 7, none⟩ = some (.int .u8 r.l) := hb.cell 7
  have z7 := hb.frozen 7
  clear hb
  have HI : Hid (∀ w, Calls Tryz.prog 62 #[.pointer (some ⟨g, 0, none⟩), .int .i64 ix] w fun e w' => e = .returned (.pointer (none)) ∧ w = w') := by
    have h := fun w => index_any g ix w
    unfold idxP at h
    rw [if_neg x1, if_neg x2] at h
    exact h
  go_enter Tryz.func65, Tryz.ntmps65
  go_wp2_with (first
    | (go_at_call 76; refine (wideHi_any _ _ hv).mono ?_; rintro e w' ⟨rfl, rfl⟩)
    | (go_at_call 70; refine (wideLo_any _ _ hv).mono ?_; rintro e w' ⟨rfl, rfl⟩)
    | (go_at_call 62; refine (HI.out _).mono ?_; rintro e w' ⟨rfl, rfl⟩))
  go_returns
  exact ⟨rfl, (HB.out.set_ 6 _).set_ 7 _, (Only.set g 6 w _).trans (Only.set g 7 _ _)⟩
set_option maxHeartbeats 1000000 in
theorem ppx (r : Rg) (T : TypeId) (X : List Value) (g : Nat) (v : Int) (w : World) (hb : Blk w g T (r.cells ++ X)) :
    Calls Tryz.prog 65 #[.pointer (some ⟨g, 0, none⟩), .int .i64 2, .int .i64 1, .int .u16 v] w (Now g T X { r with ix := v } w) := by
  have HB := Lib.hid hb
  have c : w.cell? ⟨g, 19, none⟩ = some (.int .u16 r.ix) := hb.cell 19
  have z := hb.frozen 19
  clear hb
  have HI : Hid (∀ w, Calls Tryz.prog 62 #[.pointer (some ⟨g, 0, none⟩), .int .i64 1] w fun e w' => e = .returned (.pointer (some ⟨g, 19, none⟩)) ∧ w = w') := fun w => index_any g 1 w
  go_enter Tryz.func65, Tryz.ntmps65
  go_wp2_with (first | (go_at_call 62; refine (HI.out _).mono ?_; rintro e w' ⟨rfl, rfl⟩))
  go_returns
  exact ⟨rfl, HB.out.set_ 19 _, Only.set g 19 w _⟩
set_option maxHeartbeats 1000000 in
theorem ppy (r : Rg) (T : TypeId) (X : List Value) (g : Nat) (v : Int) (w : World) (hb : Blk w g T (r.cells ++ X)) :
    Calls Tryz.prog 65 #[.pointer (some ⟨g, 0, none⟩), .int .i64 2, .int .i64 2, .int .u16 v] w (Now g T X { r with iy := v } w) := by
  have HB := Lib.hid hb
  have c : w.cell? ⟨g, 20, none⟩ = some (.int .u16 r.iy) := hb.cell 20
  have z := hb.frozen 20
  clear hb
  have HI : Hid (∀ w, Calls Tryz.prog 62 #[.pointer (some ⟨g, 0, none⟩), .int .i64 2] w fun e w' => e = .returned (.pointer (some ⟨g, 20, none⟩)) ∧ w = w') := fun w => index_any g 2 w
  go_enter Tryz.func65, Tryz.ntmps65
  go_wp2_with (first | (go_at_call 62; refine (HI.out _).mono ?_; rintro e w' ⟨rfl, rfl⟩))
  go_returns
  exact ⟨rfl, HB.out.set_ 20 _, Only.set g 20 w _⟩
set_option maxHeartbeats 1000000 in
theorem pp3 (r : Rg) (T : TypeId) (X : List Value) (g : Nat) (ix : Int) (v : Int) (w : World) (hb : Blk w g T (r.cells ++ X)) :
    Calls Tryz.prog 65 #[.pointer (some ⟨g, 0, none⟩), .int .i64 3, .int .i64 ix, .int .u16 v] w (Now g T X { r with sp := v } w) := by
  have HB := Lib.hid hb
  have c : w.cell? ⟨g, 21, none⟩ = some (.int .u16 r.sp) := hb.cell 21
  have z := hb.frozen 21
  clear hb
  go_enter Tryz.func65, Tryz.ntmps65
  go_wp2_with fail
  go_returns
  exact ⟨rfl, HB.out.set_ 21 _, Only.set g 21 w _⟩
set_option maxHeartbeats 1000000 in
theorem ppn (r : Rg) (T : TypeId) (X : List Value) (g : Nat) (k ix v : Int) (w : World) (hb : Blk w g T (r.cells ++ X)) (h : k ≠ 0 ∧ k ≠ 1 ∧ k ≠ 2 ∧ k ≠ 3) :
    Calls Tryz.prog 65 #[.pointer (some ⟨g, 0, none⟩), .int .i64 k, .int .i64 ix, .int .u16 v] w (Now g T X r w) := by
  obtain ⟨n0, n1, n2, n3⟩ := h
  have b0 : (k == 0) = false := by simp [n0]
  have b1 : (k == 1) = false := by simp [n1]
  have b2 : (k == 2) = false := by simp [n2]
  have b3 : (k == 3) = false := by simp [n3]
  have HB := Lib.hid hb
  clear hb n0 n1 n2 n3
  go_enter Tryz.func65, Tryz.ntmps65
  go_wp2_with fail
  go_returns
  exact ⟨rfl, HB.out, Only.refl _ _⟩
theorem putPair_any (r : Rg) (T : TypeId) (X : List Value) (g : Nat) (k ix v : Int) (w : World) (hb : Blk w g T (r.cells ++ X)) (hv : B16 v) :
    Calls Tryz.prog 65 #[.pointer (some ⟨g, 0, none⟩), .int .i64 k, .int .i64 ix, .int .u16 v] w (Now g T X (r.putPair k ix v) w) := by
  have kk : k = 0 ∨ k = 1 ∨ k = 2 ∨ k = 3 ∨ (k ≠ 0 ∧ k ≠ 1 ∧ k ≠ 2 ∧ k ≠ 3) := by omega
  rcases kk with rfl | rfl | rfl | rfl | h
  · exact pp0 r T X g ix v w hb hv
  · exact pp1 r T X g ix v w hb hv
  · have kx : ix = 1 ∨ ix = 2 ∨ (ix ≠ 1 ∧ ix ≠ 2) := by omega
    rcases kx with rfl | rfl | ⟨n1, n2⟩
    · exact ppx r T X g v w hb
    · exact ppy r T X g v w hb
    · have e : r.putPair 2 ix v = { r with h := v / 256, l := v % 256 } := by simp [Rg.putPair, n1, n2]
      rw [e]
      exact pp2 r T X g ix v w hb hv n1 n2
  · exact pp3 r T X g ix v w hb
  · have e : r.putPair k ix v = r := by simp [Rg.putPair, h]
    rw [e]
    exact ppn r T X g k ix v w hb h
end Go.Proofs.YtbhpmnhlmeglcaaGreat
