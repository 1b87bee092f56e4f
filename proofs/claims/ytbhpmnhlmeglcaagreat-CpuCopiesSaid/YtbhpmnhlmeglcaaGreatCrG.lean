/- regs.PutByte: what it writes. -/
import Derived.Test.YtbhpmnhlmeglcaaGreatCrC
import Derived.Handy
namespace Go.Proofs.YtbhpmnhlmeglcaaGreat
set_option linter.unusedSimpArgs false
set_option linter.unusedVariables false
open Go.RowKit
/-- nothing but block g has turned -/
structure Only (g : Nat) (w w' : World) : Prop where
  os : w'.os = w.os
  tape : w'.tape = w.tape
  output : w'.output = w.output
  size : w'.heap.size = w.heap.size
  block : ∀ k, k ≠ g → w'.heap[k]? = w.heap[k]?
theorem Only.refl (g : Nat) (w : World) : Only g w w := ⟨rfl, rfl, rfl, rfl, fun _ _ => rfl⟩
theorem Only.trans {g : Nat} {a b c : World} (h : Only g a b) (k : Only g b c) : Only g a c :=
  ⟨k.os.trans h.os, k.tape.trans h.tape, k.output.trans h.output, k.size.trans h.size, fun i hi => (k.block i hi).trans (h.block i hi)⟩
theorem Only.set (g i : Nat) (w : World) (v : Value) : Only g w (w.setCell ⟨g, i, none⟩ v) :=
  ⟨rfl, rfl, rfl, by simp [World.setCell], fun k hk => Below.heap_setCell w _ v k hk⟩
theorem Only.drew {g : Nat} {a w : World} (h : Only g a w) : Only g a w.drew := ⟨h.os, h.tape, h.output, h.size, h.block⟩
theorem Only.below {g B : Nat} {w w' : World} (h : Only g w w') (hB : B ≤ g) : Below B w w' := ⟨h.os, h.tape, h.output, by have := h.size; omega, fun k hk => h.block k (by omega)⟩
theorem Only.blk {g j : Nat} {w w' : World} {t : TypeId} {cs : List Value} (h : Only g w w') (hj : j ≠ g) (hb : Blk w j t cs) : Blk w' j t cs := (h.block j hj).trans hb
/-- registers with another byte at a number -/
def Rg.putByte (r : Rg) (k ix v : Int) : Rg :=
  if k = 0 then { r with b := v } else if k = 1 then { r with c := v } else if k = 2 then { r with d := v } else if k = 3 then { r with e := v } else
  if k = 4 then (if ix = 1 then { r with ix := v * 256 + r.ix % 256 } else if ix = 2 then { r with iy := v * 256 + r.iy % 256 } else { r with h := v }) else
  if k = 5 then (if ix = 1 then { r with ix := r.ix / 256 * 256 + v } else if ix = 2 then { r with iy := r.iy / 256 * 256 + v } else { r with l := v }) else if k = 7 then { r with a := v } else r
/-- the registers at g are now these, and nothing else has turned -/
def Now (g : Nat) (T : TypeId) (X : List Value) (r : Rg) (w : World) (e : Ending) (w' : World) : Prop := e = .returned (.tuple #[]) ∧ Blk w' g T (r.cells ++ X) ∧ Only g w w'
theorem b8_hi {x : Int} (h : B16 x) : B8 (x / 256) := by obtain ⟨a, b⟩ := h; exact ⟨by omega, by omega⟩
theorem b8_lo {x : Int} (h : B16 x) : B8 (x % 256) := by obtain ⟨a, b⟩ := h; exact ⟨by omega, by omega⟩
set_option maxHeartbeats 4000000 in
theorem putByte_any (r : Rg) (T : TypeId) (X : List Value) (g : Nat) (k ix v : Int) (w : World) (hb : Blk w g T (r.cells ++ X)) (hr : r.Ok) (hv : B8 v) :
    Calls Tryz.prog 78 #[.pointer (some ⟨g, 0, none⟩), .int .i64 k, .int .i64 ix, .int .u8 v] w (Now g T X (r.putByte k ix v) w) := by
  obtain ⟨R, hR⟩ : ∃ R, R = r.putByte k ix v := ⟨_, rfl⟩
  rw [← hR]
  unfold Rg.putByte at hR
  have HI := Lib.hid (fun w => index_any g ix w)
  have HP := Lib.hid (fun w => rplace_any g k w)
  have wx := hr.ix
  have wy := hr.iy
  have HV := Lib.hid hv
  have HB := Lib.hid hb
  have kx : ix = 1 ∨ ix = 2 ∨ (ix ≠ 1 ∧ ix ≠ 2) := by omega
  have kk : k = 4 ∨ k = 5 ∨ k = 0 ∨ k = 1 ∨ k = 2 ∨ k = 3 ∨ k = 7 ∨ (k ≠ 0 ∧ k ≠ 1 ∧ k ≠ 2 ∧ k ≠ 3 ∧ k ≠ 4 ∧ k ≠ 5 ∧ k ≠ 7) := by omega
  rcases kx with rfl | rfl | ⟨x1, x2⟩
  · have HI : Hid (∀ w, Calls Tryz.prog 62 #[.pointer (some ⟨g, 0, none⟩), .int .i64 1] w fun e w' => e = .returned (.pointer (some ⟨g, 19, none⟩)) ∧ w = w') := HI
    rcases kk with rfl | rfl | rfl | rfl | rfl | rfl | rfl | ⟨n0, n1, n2, n3, n4, n5, n7⟩
    · simp at hR
      subst hR
      have c0 : w.cell? ⟨g, 19, none⟩ = some (.int .u16 r.ix) := hb.cell 19
      have z0 := hb.frozen 19
      clear hb
      go_enter Tryz.func78, Tryz.ntmps78
      go_wp2_with (first
        | (go_at_call 62; refine (HI.out _).mono ?_; rintro e w' ⟨rfl, rfl⟩)
        | (go_at_call 121; refine (HP.out _).mono ?_; rintro e w' ⟨rfl, rfl⟩)
        | (go_at_call 76; refine (wideHi_any _ _ wx).mono ?_; rintro e w' ⟨rfl, rfl⟩)
        | (go_at_call 70; refine (wideLo_any _ _ wx).mono ?_; rintro e w' ⟨rfl, rfl⟩)
        | (go_at_call 38; refine (wideOf_any _ _ _ HV.out (b8_lo wx)).mono ?_; rintro e w' ⟨rfl, rfl⟩))
      go_returns
      exact ⟨rfl, HB.out.set_ 19 _, Only.set g 19 w _⟩
    · simp at hR
      subst hR
      have c0 : w.cell? ⟨g, 19, none⟩ = some (.int .u16 r.ix) := hb.cell 19
      have z0 := hb.frozen 19
      clear hb
      go_enter Tryz.func78, Tryz.ntmps78
      go_wp2_with (first
        | (go_at_call 62; refine (HI.out _).mono ?_; rintro e w' ⟨rfl, rfl⟩)
        | (go_at_call 121; refine (HP.out _).mono ?_; rintro e w' ⟨rfl, rfl⟩)
        | (go_at_call 76; refine (wideHi_any _ _ wx).mono ?_; rintro e w' ⟨rfl, rfl⟩)
        | (go_at_call 70; refine (wideLo_any _ _ wx).mono ?_; rintro e w' ⟨rfl, rfl⟩)
        | (go_at_call 38; refine (wideOf_any _ _ _ (b8_hi wx) HV.out).mono ?_; rintro e w' ⟨rfl, rfl⟩))
      go_returns
      exact ⟨rfl, HB.out.set_ 19 _, Only.set g 19 w _⟩
    · simp at hR
      subst hR
      have HP : Hid (∀ w, Calls Tryz.prog 121 #[.pointer (some ⟨g, 0, none⟩), .int .i64 0] w fun e w' => e = .returned (.pointer (some ⟨g, 2, none⟩)) ∧ w = w') := HP
      have c0 : w.cell? ⟨g, 2, none⟩ = some (.int .u8 r.b) := hb.cell 2
      have z0 := hb.frozen 2
      clear hb
      go_enter Tryz.func78, Tryz.ntmps78
      go_wp2_with (first
        | (go_at_call 62; refine (HI.out _).mono ?_; rintro e w' ⟨rfl, rfl⟩)
        | (go_at_call 121; refine (HP.out _).mono ?_; rintro e w' ⟨rfl, rfl⟩)
        | (go_at_call 76; refine (wideHi_any _ _ wx).mono ?_; rintro e w' ⟨rfl, rfl⟩)
        | (go_at_call 70; refine (wideLo_any _ _ wx).mono ?_; rintro e w' ⟨rfl, rfl⟩)
        | (go_at_call 38; refine (wideOf_any _ _ _ HV.out HV.out).mono ?_; rintro e w' ⟨rfl, rfl⟩))
      go_returns
      exact ⟨rfl, HB.out.set_ 2 _, Only.set g 2 w _⟩
    · simp at hR
      subst hR
      have HP : Hid (∀ w, Calls Tryz.prog 121 #[.pointer (some ⟨g, 0, none⟩), .int .i64 1] w fun e w' => e = .returned (.pointer (some ⟨g, 3, none⟩)) ∧ w = w') := HP
      have c0 : w.cell? ⟨g, 3, none⟩ = some (.int .u8 r.c) := hb.cell 3
      have z0 := hb.frozen 3
      clear hb
      go_enter Tryz.func78, Tryz.ntmps78
      go_wp2_with (first
        | (go_at_call 62; refine (HI.out _).mono ?_; rintro e w' ⟨rfl, rfl⟩)
        | (go_at_call 121; refine (HP.out _).mono ?_; rintro e w' ⟨rfl, rfl⟩)
        | (go_at_call 76; refine (wideHi_any _ _ wx).mono ?_; rintro e w' ⟨rfl, rfl⟩)
        | (go_at_call 70; refine (wideLo_any _ _ wx).mono ?_; rintro e w' ⟨rfl, rfl⟩)
        | (go_at_call 38; refine (wideOf_any _ _ _ HV.out HV.out).mono ?_; rintro e w' ⟨rfl, rfl⟩))
      go_returns
      exact ⟨rfl, HB.out.set_ 3 _, Only.set g 3 w _⟩
    · simp at hR
      subst hR
      have HP : Hid (∀ w, Calls Tryz.prog 121 #[.pointer (some ⟨g, 0, none⟩), .int .i64 2] w fun e w' => e = .returned (.pointer (some ⟨g, 4, none⟩)) ∧ w = w') := HP
      have c0 : w.cell? ⟨g, 4, none⟩ = some (.int .u8 r.d) := hb.cell 4
      have z0 := hb.frozen 4
      clear hb
      go_enter Tryz.func78, Tryz.ntmps78
      go_wp2_with (first
        | (go_at_call 62; refine (HI.out _).mono ?_; rintro e w' ⟨rfl, rfl⟩)
        | (go_at_call 121; refine (HP.out _).mono ?_; rintro e w' ⟨rfl, rfl⟩)
        | (go_at_call 76; refine (wideHi_any _ _ wx).mono ?_; rintro e w' ⟨rfl, rfl⟩)
        | (go_at_call 70; refine (wideLo_any _ _ wx).mono ?_; rintro e w' ⟨rfl, rfl⟩)
        | (go_at_call 38; refine (wideOf_any _ _ _ HV.out HV.out).mono ?_; rintro e w' ⟨rfl, rfl⟩))
      go_returns
      exact ⟨rfl, HB.out.set_ 4 _, Only.set g 4 w _⟩
    · simp at hR
      subst hR
      have HP : Hid (∀ w, Calls Tryz.prog 121 #[.pointer (some ⟨g, 0, none⟩), .int .i64 3] w fun e w' => e = .returned (.pointer (some ⟨g, 5, none⟩)) ∧ w = w') := HP
      have c0 : w.cell? ⟨g, 5, none⟩ = some (.int .u8 r.e) := hb.cell 5
      have z0 := hb.frozen 5
      clear hb
      go_enter Tryz.func78, Tryz.ntmps78
      go_wp2_with (first
        | (go_at_call 62; refine (HI.out _).mono ?_; rintro e w' ⟨rfl, rfl⟩)
        | (go_at_call 121; refine (HP.out _).mono ?_; rintro e w' ⟨rfl, rfl⟩)
        | (go_at_call 76; refine (wideHi_any _ _ wx).mono ?_; rintro e w' ⟨rfl, rfl⟩)
        | (go_at_call 70; refine (wideLo_any _ _ wx).mono ?_; rintro e w' ⟨rfl, rfl⟩)
        | (go_at_call 38; refine (wideOf_any _ _ _ HV.out HV.out).mono ?_; rintro e w' ⟨rfl, rfl⟩))
      go_returns
      exact ⟨rfl, HB.out.set_ 5 _, Only.set g 5 w _⟩
    · simp at hR
      subst hR
      have HP : Hid (∀ w, Calls Tryz.prog 121 #[.pointer (some ⟨g, 0, none⟩), .int .i64 7] w fun e w' => e = .returned (.pointer (some ⟨g, 0, none⟩)) ∧ w = w') := HP
      have c0 : w.cell? ⟨g, 0, none⟩ = some (.int .u8 r.a) := hb.cell 0
      have z0 := hb.frozen 0
      clear hb
      go_enter Tryz.func78, Tryz.ntmps78
      go_wp2_with (first
        | (go_at_call 62; refine (HI.out _).mono ?_; rintro e w' ⟨rfl, rfl⟩)
        | (go_at_call 121; refine (HP.out _).mono ?_; rintro e w' ⟨rfl, rfl⟩)
        | (go_at_call 76; refine (wideHi_any _ _ wx).mono ?_; rintro e w' ⟨rfl, rfl⟩)
        | (go_at_call 70; refine (wideLo_any _ _ wx).mono ?_; rintro e w' ⟨rfl, rfl⟩)
        | (go_at_call 38; refine (wideOf_any _ _ _ HV.out HV.out).mono ?_; rintro e w' ⟨rfl, rfl⟩))
      go_returns
      exact ⟨rfl, HB.out.set_ 0 _, Only.set g 0 w _⟩
    · rw [if_neg n0, if_neg n1, if_neg n2, if_neg n3, if_neg n4, if_neg n5, if_neg n7] at hR
      subst hR
      have HP : Hid (∀ w, Calls Tryz.prog 121 #[.pointer (some ⟨g, 0, none⟩), .int .i64 k] w fun e w' => e = .returned (.pointer none) ∧ w = w') := by
        have h := HP.out
        unfold plcP at h
        rw [if_neg n0, if_neg n1, if_neg n2, if_neg n3, if_neg n4, if_neg n5, if_neg n7] at h
        exact h
      have b4 : (k == 4) = false := by simp [n4]
      have b5 : (k == 5) = false := by simp [n5]
      clear hb
      go_enter Tryz.func78, Tryz.ntmps78
      go_wp2_with (first
        | (go_at_call 62; refine (HI.out _).mono ?_; rintro e w' ⟨rfl, rfl⟩)
        | (go_at_call 121; refine (HP.out _).mono ?_; rintro e w' ⟨rfl, rfl⟩)
        | (go_at_call 76; refine (wideHi_any _ _ wx).mono ?_; rintro e w' ⟨rfl, rfl⟩)
        | (go_at_call 70; refine (wideLo_any _ _ wx).mono ?_; rintro e w' ⟨rfl, rfl⟩)
        | (go_at_call 38; refine (wideOf_any _ _ _ HV.out HV.out).mono ?_; rintro e w' ⟨rfl, rfl⟩))
      go_returns
      exact ⟨rfl, HB.out, Only.refl g w⟩
  · have HI : Hid (∀ w, Calls Tryz.prog 62 #[.pointer (some ⟨g, 0, none⟩), .int .i64 2] w fun e w' => e = .returned (.pointer (some ⟨g, 20, none⟩)) ∧ w = w') := HI
    rcases kk with rfl | rfl | rfl | rfl | rfl | rfl | rfl | ⟨n0, n1, n2, n3, n4, n5, n7⟩
    · simp at hR
      subst hR
      have c0 : w.cell? ⟨g, 20, none⟩ = some (.int .u16 r.iy) := hb.cell 20
      have z0 := hb.frozen 20
      clear hb
      go_enter Tryz.func78, Tryz.ntmps78
      go_wp2_with (first
        | (go_at_call 62; refine (HI.out _).mono ?_; rintro e w' ⟨rfl, rfl⟩)
        | (go_at_call 121; refine (HP.out _).mono ?_; rintro e w' ⟨rfl, rfl⟩)
        | (go_at_call 76; refine (wideHi_any _ _ wy).mono ?_; rintro e w' ⟨rfl, rfl⟩)
        | (go_at_call 70; refine (wideLo_any _ _ wy).mono ?_; rintro e w' ⟨rfl, rfl⟩)
        | (go_at_call 38; refine (wideOf_any _ _ _ HV.out (b8_lo wy)).mono ?_; rintro e w' ⟨rfl, rfl⟩))
      go_returns
      exact ⟨rfl, HB.out.set_ 20 _, Only.set g 20 w _⟩
    · simp at hR
      subst hR
      have c0 : w.cell? ⟨g, 20, none⟩ = some (.int .u16 r.iy) := hb.cell 20
      have z0 := hb.frozen 20
      clear hb
      go_enter Tryz.func78, Tryz.ntmps78
      go_wp2_with (first
        | (go_at_call 62; refine (HI.out _).mono ?_; rintro e w' ⟨rfl, rfl⟩)
        | (go_at_call 121; refine (HP.out _).mono ?_; rintro e w' ⟨rfl, rfl⟩)
        | (go_at_call 76; refine (wideHi_any _ _ wy).mono ?_; rintro e w' ⟨rfl, rfl⟩)
        | (go_at_call 70; refine (wideLo_any _ _ wy).mono ?_; rintro e w' ⟨rfl, rfl⟩)
        | (go_at_call 38; refine (wideOf_any _ _ _ (b8_hi wy) HV.out).mono ?_; rintro e w' ⟨rfl, rfl⟩))
      go_returns
      exact ⟨rfl, HB.out.set_ 20 _, Only.set g 20 w _⟩
    · simp at hR
      subst hR
      have HP : Hid (∀ w, Calls Tryz.prog 121 #[.pointer (some ⟨g, 0, none⟩), .int .i64 0] w fun e w' => e = .returned (.pointer (some ⟨g, 2, none⟩)) ∧ w = w') := HP
      have c0 : w.cell? ⟨g, 2, none⟩ = some (.int .u8 r.b) := hb.cell 2
      have z0 := hb.frozen 2
      clear hb
      go_enter Tryz.func78, Tryz.ntmps78
      go_wp2_with (first
        | (go_at_call 62; refine (HI.out _).mono ?_; rintro e w' ⟨rfl, rfl⟩)
        | (go_at_call 121; refine (HP.out _).mono ?_; rintro e w' ⟨rfl, rfl⟩)
        | (go_at_call 76; refine (wideHi_any _ _ wx).mono ?_; rintro e w' ⟨rfl, rfl⟩)
        | (go_at_call 70; refine (wideLo_any _ _ wx).mono ?_; rintro e w' ⟨rfl, rfl⟩)
        | (go_at_call 38; refine (wideOf_any _ _ _ HV.out HV.out).mono ?_; rintro e w' ⟨rfl, rfl⟩))
      go_returns
      exact ⟨rfl, HB.out.set_ 2 _, Only.set g 2 w _⟩
    · simp at hR
      subst hR
      have HP : Hid (∀ w, Calls Tryz.prog 121 #[.pointer (some ⟨g, 0, none⟩), .int .i64 1] w fun e w' => e = .returned (.pointer (some ⟨g, 3, none⟩)) ∧ w = w') := HP
      have c0 : w.cell? ⟨g, 3, none⟩ = some (.int .u8 r.c) := hb.cell 3
      have z0 := hb.frozen 3
      clear hb
      go_enter Tryz.func78, Tryz.ntmps78
      go_wp2_with (first
        | (go_at_call 62; refine (HI.out _).mono ?_; rintro e w' ⟨rfl, rfl⟩)
        | (go_at_call 121; refine (HP.out _).mono ?_; rintro e w' ⟨rfl, rfl⟩)
        | (go_at_call 76; refine (wideHi_any _ _ wx).mono ?_; rintro e w' ⟨rfl, rfl⟩)
        | (go_at_call 70; refine (wideLo_any _ _ wx).mono ?_; rintro e w' ⟨rfl, rfl⟩)
        | (go_at_call 38; refine (wideOf_any _ _ _ HV.out HV.out).mono ?_; rintro e w' ⟨rfl, rfl⟩))
      go_returns
      exact ⟨rfl, HB.out.set_ 3 _, Only.set g 3 w _⟩
    · simp at hR
      subst hR
      have HP : Hid (∀ w, Calls Tryz.prog 121 #[.pointer (some ⟨g, 0, none⟩), .int .i64 2] w fun e w' => e = .returned (.pointer (some ⟨g, 4, none⟩)) ∧ w = w') := HP
      have c0 : w.cell? ⟨g, 4, none⟩ = some (.int .u8 r.d) := hb.cell 4
      have z0 := hb.frozen 4
      clear hb
      go_enter Tryz.func78, Tryz.ntmps78
      go_wp2_with (first
        | (go_at_call 62; refine (HI.out _).mono ?_; rintro e w' ⟨rfl, rfl⟩)
        | (go_at_call 121; refine (HP.out _).mono ?_; rintro e w' ⟨rfl, rfl⟩)
        | (go_at_call 76; refine (wideHi_any _ _ wx).mono ?_; rintro e w' ⟨rfl, rfl⟩)
        | (go_at_call 70; refine (wideLo_any _ _ wx).mono ?_; rintro e w' ⟨rfl, rfl⟩)
        | (go_at_call 38; refine (wideOf_any _ _ _ HV.out HV.out).mono ?_; rintro e w' ⟨rfl, rfl⟩))
      go_returns
      exact ⟨rfl, HB.out.set_ 4 _, Only.set g 4 w _⟩
    · simp at hR
      subst hR
      have HP : Hid (∀ w, Calls Tryz.prog 121 #[.pointer (some ⟨g, 0, none⟩), .int .i64 3] w fun e w' => e = .returned (.pointer (some ⟨g, 5, none⟩)) ∧ w = w') := HP
      have c0 : w.cell? ⟨g, 5, none⟩ = some (.int .u8 r.e) := hb.cell 5
      have z0 := hb.frozen 5
      clear hb
      go_enter Tryz.func78, Tryz.ntmps78
      go_wp2_with (first
        | (go_at_call 62; refine (HI.out _).mono ?_; rintro e w' ⟨rfl, rfl⟩)
        | (go_at_call 121; refine (HP.out _).mono ?_; rintro e w' ⟨rfl, rfl⟩)
        | (go_at_call 76; refine (wideHi_any _ _ wx).mono ?_; rintro e w' ⟨rfl, rfl⟩)
        | (go_at_call 70; refine (wideLo_any _ _ wx).mono ?_; rintro e w' ⟨rfl, rfl⟩)
        | (go_at_call 38; refine (wideOf_any _ _ _ HV.out HV.out).mono ?_; rintro e w' ⟨rfl, rfl⟩))
      go_returns
      exact ⟨rfl, HB.out.set_ 5 _, Only.set g 5 w _⟩
    · simp at hR
      subst hR
      have HP : Hid (∀ w, Calls Tryz.prog 121 #[.pointer (some ⟨g, 0, none⟩), .int .i64 7] w fun e w' => e = .returned (.pointer (some ⟨g, 0, none⟩)) ∧ w = w') := HP
      have c0 : w.cell? ⟨g, 0, none⟩ = some (.int .u8 r.a) := hb.cell 0
      have z0 := hb.frozen 0
      clear hb
      go_enter Tryz.func78, Tryz.ntmps78
      go_wp2_with (first
        | (go_at_call 62; refine (HI.out _).mono ?_; rintro e w' ⟨rfl, rfl⟩)
        | (go_at_call 121; refine (HP.out _).mono ?_; rintro e w' ⟨rfl, rfl⟩)
        | (go_at_call 76; refine (wideHi_any _ _ wx).mono ?_; rintro e w' ⟨rfl, rfl⟩)
        | (go_at_call 70; refine (wideLo_any _ _ wx).mono ?_; rintro e w' ⟨rfl, rfl⟩)
        | (go_at_call 38; refine (wideOf_any _ _ _ HV.out HV.out).mono ?_; rintro e w' ⟨rfl, rfl⟩))
      go_returns
      exact ⟨rfl, HB.out.set_ 0 _, Only.set g 0 w _⟩
    · rw [if_neg n0, if_neg n1, if_neg n2, if_neg n3, if_neg n4, if_neg n5, if_neg n7] at hR
      subst hR
      have HP : Hid (∀ w, Calls Tryz.prog 121 #[.pointer (some ⟨g, 0, none⟩), .int .i64 k] w fun e w' => e = .returned (.pointer none) ∧ w = w') := by
        have h := HP.out
        unfold plcP at h
        rw [if_neg n0, if_neg n1, if_neg n2, if_neg n3, if_neg n4, if_neg n5, if_neg n7] at h
        exact h
      have b4 : (k == 4) = false := by simp [n4]
      have b5 : (k == 5) = false := by simp [n5]
      clear hb
      go_enter Tryz.func78, Tryz.ntmps78
      go_wp2_with (first
        | (go_at_call 62; refine (HI.out _).mono ?_; rintro e w' ⟨rfl, rfl⟩)
        | (go_at_call 121; refine (HP.out _).mono ?_; rintro e w' ⟨rfl, rfl⟩)
        | (go_at_call 76; refine (wideHi_any _ _ wx).mono ?_; rintro e w' ⟨rfl, rfl⟩)
        | (go_at_call 70; refine (wideLo_any _ _ wx).mono ?_; rintro e w' ⟨rfl, rfl⟩)
        | (go_at_call 38; refine (wideOf_any _ _ _ HV.out HV.out).mono ?_; rintro e w' ⟨rfl, rfl⟩))
      go_returns
      exact ⟨rfl, HB.out, Only.refl g w⟩
  · have HI : Hid (∀ w, Calls Tryz.prog 62 #[.pointer (some ⟨g, 0, none⟩), .int .i64 ix] w fun e w' => e = .returned (.pointer (none)) ∧ w = w') := by
      have h := HI.out
      unfold idxP at h
      rw [if_neg x1, if_neg x2] at h
      exact h
    rcases kk with rfl | rfl | rfl | rfl | rfl | rfl | rfl | ⟨n0, n1, n2, n3, n4, n5, n7⟩
    · simp [x1, x2] at hR
      subst hR
      have HP : Hid (∀ w, Calls Tryz.prog 121 #[.pointer (some ⟨g, 0, none⟩), .int .i64 4] w fun e w' => e = .returned (.pointer (some ⟨g, 6, none⟩)) ∧ w = w') := HP
      have c0 : w.cell? ⟨g, 6, none⟩ = some (.int .u8 r.h) := hb.cell 6
      have z0 := hb.frozen 6
      clear hb
      go_enter Tryz.func78, Tryz.ntmps78
      go_wp2_with (first
        | (go_at_call 62; refine (HI.out _).mono ?_; rintro e w' ⟨rfl, rfl⟩)
        | (go_at_call 121; refine (HP.out _).mono ?_; rintro e w' ⟨rfl, rfl⟩)
        | (go_at_call 76; refine (wideHi_any _ _ wx).mono ?_; rintro e w' ⟨rfl, rfl⟩)
        | (go_at_call 70; refine (wideLo_any _ _ wx).mono ?_; rintro e w' ⟨rfl, rfl⟩)
        | (go_at_call 38; refine (wideOf_any _ _ _ HV.out HV.out).mono ?_; rintro e w' ⟨rfl, rfl⟩))
      go_returns
      exact ⟨rfl, HB.out.set_ 6 _, Only.set g 6 w _⟩
    · simp [x1, x2] at hR
      subst hR
      have HP : Hid (∀ w, Calls Tryz.prog 121 #[.pointer (some ⟨g, 0, none⟩), .int .i64 5] w fun e w' => e = .returned (.pointer (some ⟨g, 7, none⟩)) ∧ w = w') := HP
      have c0 : w.cell? ⟨g, 7, none⟩ = some (.int .u8 r.l) := hb.cell 7
      have z0 := hb.frozen 7
      clear hb
      go_enter Tryz.func78, Tryz.ntmps78
      go_wp2_with (first
        | (go_at_call 62; refine (HI.out _).mono ?_; rintro e w' ⟨rfl, rfl⟩)
        | (go_at_call 121; refine (HP.out _).mono ?_; rintro e w' ⟨rfl, rfl⟩)
        | (go_at_call 76; refine (wideHi_any _ _ wx).mono ?_; rintro e w' ⟨rfl, rfl⟩)
        | (go_at_call 70; refine (wideLo_any _ _ wx).mono ?_; rintro e w' ⟨rfl, rfl⟩)
        | (go_at_call 38; refine (wideOf_any _ _ _ HV.out HV.out).mono ?_; rintro e w' ⟨rfl, rfl⟩))
      go_returns
      exact ⟨rfl, HB.out.set_ 7 _, Only.set g 7 w _⟩
    · simp [x1, x2] at hR
      subst hR
      have HP : Hid (∀ w, Calls Tryz.prog 121 #[.pointer (some ⟨g, 0, none⟩), .int .i64 0] w fun e w' => e = .returned (.pointer (some ⟨g, 2, none⟩)) ∧ w = w') := HP
      have c0 : w.cell? ⟨g, 2, none⟩ = some (.int .u8 r.b) := hb.cell 2
      have z0 := hb.frozen 2
      clear hb
      go_enter Tryz.func78, Tryz.ntmps78
      go_wp2_with (first
        | (go_at_call 62; refine (HI.out _).mono ?_; rintro e w' ⟨rfl, rfl⟩)
        | (go_at_call 121; refine (HP.out _).mono ?_; rintro e w' ⟨rfl, rfl⟩)
        | (go_at_call 76; refine (wideHi_any _ _ wx).mono ?_; rintro e w' ⟨rfl, rfl⟩)
        | (go_at_call 70; refine (wideLo_any _ _ wx).mono ?_; rintro e w' ⟨rfl, rfl⟩)
        | (go_at_call 38; refine (wideOf_any _ _ _ HV.out HV.out).mono ?_; rintro e w' ⟨rfl, rfl⟩))
      go_returns
      exact ⟨rfl, HB.out.set_ 2 _, Only.set g 2 w _⟩
    · simp [x1, x2] at hR
      subst hR
      have HP : Hid (∀ w, Calls Tryz.prog 121 #[.pointer (some ⟨g, 0, none⟩), .int .i64 1] w fun e w' => e = .returned (.pointer (some ⟨g, 3, none⟩)) ∧ w = w') := HP
      have c0 : w.cell? ⟨g, 3, none⟩ = some (.int .u8 r.c) := hb.cell 3
      have z0 := hb.frozen 3
      clear hb
      go_enter Tryz.func78, Tryz.ntmps78
      go_wp2_with (first
        | (go_at_call 62; refine (HI.out _).mono ?_; rintro e w' ⟨rfl, rfl⟩)
        | (go_at_call 121; refine (HP.out _).mono ?_; rintro e w' ⟨rfl, rfl⟩)
        | (go_at_call 76; refine (wideHi_any _ _ wx).mono ?_; rintro e w' ⟨rfl, rfl⟩)
        | (go_at_call 70; refine (wideLo_any _ _ wx).mono ?_; rintro e w' ⟨rfl, rfl⟩)
        | (go_at_call 38; refine (wideOf_any _ _ _ HV.out HV.out).mono ?_; rintro e w' ⟨rfl, rfl⟩))
      go_returns
      exact ⟨rfl, HB.out.set_ 3 _, Only.set g 3 w _⟩
    · simp [x1, x2] at hR
      subst hR
      have HP : Hid (∀ w, Calls Tryz.prog 121 #[.pointer (some ⟨g, 0, none⟩), .int .i64 2] w fun e w' => e = .returned (.pointer (some ⟨g, 4, none⟩)) ∧ w = w') := HP
      have c0 : w.cell? ⟨g, 4, none⟩ = some (.int .u8 r.d) := hb.cell 4
      have z0 := hb.frozen 4
      clear hb
      go_enter Tryz.func78, Tryz.ntmps78
      go_wp2_with (first
        | (go_at_call 62; refine (HI.out _).mono ?_; rintro e w' ⟨rfl, rfl⟩)
        | (go_at_call 121; refine (HP.out _).mono ?_; rintro e w' ⟨rfl, rfl⟩)
        | (go_at_call 76; refine (wideHi_any _ _ wx).mono ?_; rintro e w' ⟨rfl, rfl⟩)
        | (go_at_call 70; refine (wideLo_any _ _ wx).mono ?_; rintro e w' ⟨rfl, rfl⟩)
        | (go_at_call 38; refine (wideOf_any _ _ _ HV.out HV.out).mono ?_; rintro e w' ⟨rfl, rfl⟩))
      go_returns
      exact ⟨rfl, HB.out.set_ 4 _, Only.set g 4 w _⟩
    · simp [x1, x2] at hR
      subst hR
      have HP : Hid (∀ w, Calls Tryz.prog 121 #[.pointer (some ⟨g, 0, none⟩), .int .i64 3] w fun e w' => e = .returned (.pointer (some ⟨g, 5, none⟩)) ∧ w = w') := HP
      have c0 : w.cell? ⟨g, 5, none⟩ = some (.int .u8 r.e) := hb.cell 5
      have z0 := hb.frozen 5
      clear hb
      go_enter Tryz.func78, Tryz.ntmps78
      go_wp2_with (first
        | (go_at_call 62; refine (HI.out _).mono ?_; rintro e w' ⟨rfl, rfl⟩)
        | (go_at_call 121; refine (HP.out _).mono ?_; rintro e w' ⟨rfl, rfl⟩)
        | (go_at_call 76; refine (wideHi_any _ _ wx).mono ?_; rintro e w' ⟨rfl, rfl⟩)
        | (go_at_call 70; refine (wideLo_any _ _ wx).mono ?_; rintro e w' ⟨rfl, rfl⟩)
        | (go_at_call 38; refine (wideOf_any _ _ _ HV.out HV.out).mono ?_; rintro e w' ⟨rfl, rfl⟩))
      go_returns
      exact ⟨rfl, HB.out.set_ 5 _, Only.set g 5 w _⟩
    · simp [x1, x2] at hR
      subst hR
      have HP : Hid (∀ w, Calls Tryz.prog 121 #[.pointer (some ⟨g, 0, none⟩), .int .i64 7] w fun e w' => e = .returned (.pointer (some ⟨g, 0, none⟩)) ∧ w = w') := HP
      have c0 : w.cell? ⟨g, 0, none⟩ = some (.int .u8 r.a) := hb.cell 0
      have z0 := hb.frozen 0
      clear hb
      go_enter Tryz.func78, Tryz.ntmps78
      go_wp2_with (first
        | (go_at_call 62; refine (HI.out _).mono ?_; rintro e w' ⟨rfl, rfl⟩)
        | (go_at_call 121; refine (HP.out _).mono ?_; rintro e w' ⟨rfl, rfl⟩)
        | (go_at_call 76; refine (wideHi_any _ _ wx).mono ?_; rintro e w' ⟨rfl, rfl⟩)
        | (go_at_call 70; refine (wideLo_any _ _ wx).mono ?_; rintro e w' ⟨rfl, rfl⟩)
        | (go_at_call 38; refine (wideOf_any _ _ _ HV.out HV.out).mono ?_; rintro e w' ⟨rfl, rfl⟩))
      go_returns
      exact ⟨rfl, HB.out.set_ 0 _, Only.set g 0 w _⟩
    · rw [if_neg n0, if_neg n1, if_neg n2, if_neg n3, if_neg n4, if_neg n5, if_neg n7] at hR
      subst hR
      have HP : Hid (∀ w, Calls Tryz.prog 121 #[.pointer (some ⟨g, 0, none⟩), .int .i64 k] w fun e w' => e = .returned (.pointer none) ∧ w = w') := by
        have h := HP.out
        unfold plcP at h
        rw [if_neg n0, if_neg n1, if_neg n2, if_neg n3, if_neg n4, if_neg n5, if_neg n7] at h
        exact h
      have b4 : (k == 4) = false := by simp [n4]
      have b5 : (k == 5) = false := by simp [n5]
      clear hb
      go_enter Tryz.func78, Tryz.ntmps78
      go_wp2_with (first
        | (go_at_call 62; refine (HI.out _).mono ?_; rintro e w' ⟨rfl, rfl⟩)
        | (go_at_call 121; refine (HP.out _).mono ?_; rintro e w' ⟨rfl, rfl⟩)
        | (go_at_call 76; refine (wideHi_any _ _ wx).mono ?_; rintro e w' ⟨rfl, rfl⟩)
        | (go_at_call 70; refine (wideLo_any _ _ wx).mono ?_; rintro e w' ⟨rfl, rfl⟩)
        | (go_at_call 38; refine (wideOf_any _ _ _ HV.out HV.out).mono ?_; rintro e w' ⟨rfl, rfl⟩))
      go_returns
      exact ⟨rfl, HB.out, Only.refl g w⟩
end Go.Proofs.YtbhpmnhlmeglcaaGreat
