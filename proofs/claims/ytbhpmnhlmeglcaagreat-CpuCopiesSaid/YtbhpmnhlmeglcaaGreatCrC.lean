/- regs: Af, Ir, Pair, Byte: what they read. -/
import Derived.Test.YtbhpmnhlmeglcaaGreatCrA
import Derived.StillTailTactics
namespace Go.Proofs.YtbhpmnhlmeglcaaGreat
set_option linter.unusedSimpArgs false
set_option linter.unusedVariables false
open Go.RowKit
theorem same_swap {P : Program} {f : FuncId} {args : Array Value} {w : World} {v : Value} (h : Calls P f args w fun e w' => e = .returned v ∧ w = w') : Calls P f args w fun e w' => e = .returned v ∧ w' = w := h.mono fun _ _ ⟨h1, h2⟩ => ⟨h1, h2.symm⟩
set_option maxHeartbeats 1000000 in
theorem af_any (r : Rg) (T : TypeId) (X : List Value) (g : Nat) (w : World) (hb : Blk w g T (r.cells ++ X)) (hr : r.Ok) :
    Calls Tryz.prog 136 #[.pointer (some ⟨g, 0, none⟩)] w fun e w' => e = .returned (.int .u16 (r.a * 256 + r.f)) ∧ Drew w w' := by
  have c0 : w.cell? ⟨g, 0, none⟩ = some (.int .u8 r.a) := hb.cell 0
  have c1 : w.cell? ⟨g, 1, none⟩ = some (.int .u8 r.f) := hb.cell 1
  have k0 := hr.a
  have k1 := hr.f
  go_enter Tryz.func136, Tryz.ntmps136
  go_wp2_with fail
  go_quiet ((go_at_call 38; exact Calls.quiet_of_same (same_swap (wideOf_any _ _ _ k0 k1))))
  go_wp2_with fail
  go_ret
  exact ⟨rfl, _, rfl⟩
set_option maxHeartbeats 1000000 in
theorem ir_any (r : Rg) (T : TypeId) (X : List Value) (g : Nat) (w : World) (hb : Blk w g T (r.cells ++ X)) (hr : r.Ok) :
    Calls Tryz.prog 87 #[.pointer (some ⟨g, 0, none⟩)] w fun e w' => e = .returned (.int .u16 (r.i * 256 + r.r)) ∧ Drew w w' := by
  have c0 : w.cell? ⟨g, 16, none⟩ = some (.int .u8 r.i) := hb.cell 16
  have c1 : w.cell? ⟨g, 17, none⟩ = some (.int .u8 r.r) := hb.cell 17
  have k0 := hr.i
  have k1 := hr.r'
  go_enter Tryz.func87, Tryz.ntmps87
  go_wp2_with fail
  go_quiet ((go_at_call 38; exact Calls.quiet_of_same (same_swap (wideOf_any _ _ _ k0 k1))))
  go_wp2_with fail
  go_ret
  exact ⟨rfl, _, rfl⟩
/-- a pair by its number -/
def Rg.pair (r : Rg) (k ix : Int) : Int :=
  if k = 0 then r.b * 256 + r.c else if k = 1 then r.d * 256 + r.e else if k = 2 then (if ix = 1 then r.ix else if ix = 2 then r.iy else r.h * 256 + r.l) else if k = 3 then r.sp else 0
set_option maxHeartbeats 2000000 in
theorem pair_any (r : Rg) (T : TypeId) (X : List Value) (g : Nat) (k ix : Int) (w : World) (hb : Blk w g T (r.cells ++ X)) (hr : r.Ok) :
    Calls Tryz.prog 44 #[.pointer (some ⟨g, 0, none⟩), .int .i64 k, .int .i64 ix] w fun e w' => e = .returned (.int .u16 (r.pair k ix)) ∧ Drew w w' := by
  obtain ⟨R, hR⟩ : ∃ R, R = r.pair k ix := ⟨_, rfl⟩
  rw [← hR]
  unfold Rg.pair at hR
  have HI := Lib.hid (fun w => index_any g ix w)
  have kk : k = 0 ∨ k = 1 ∨ k = 2 ∨ k = 3 ∨ (k ≠ 0 ∧ k ≠ 1 ∧ k ≠ 2 ∧ k ≠ 3) := by omega
  rcases kk with rfl | rfl | rfl | rfl | ⟨n0, n1, n2, n3⟩
  · simp at hR
    subst hR
    have c0 : w.cell? ⟨g, 2, none⟩ = some (.int .u8 r.b) := hb.cell 2
    have c1 : w.cell? ⟨g, 3, none⟩ = some (.int .u8 r.c) := hb.cell 3
    have k0 := hr.b
    have k1 := hr.c
    go_enter Tryz.func44, Tryz.ntmps44
    go_wp2_with (first | (go_at_call 62; refine (HI.out _).mono ?_; rintro e w' ⟨rfl, rfl⟩))
    go_quiet ((go_at_call 38; exact Calls.quiet_of_same (same_swap (wideOf_any _ _ _ k0 k1))))
    go_wp2_with fail
    go_ret
    exact ⟨rfl, _, rfl⟩
  · simp at hR
    subst hR
    have c0 : w.cell? ⟨g, 4, none⟩ = some (.int .u8 r.d) := hb.cell 4
    have c1 : w.cell? ⟨g, 5, none⟩ = some (.int .u8 r.e) := hb.cell 5
    have k0 := hr.d
    have k1 := hr.e
    go_enter Tryz.func44, Tryz.ntmps44
    go_wp2_with (first | (go_at_call 62; refine (HI.out _).mono ?_; rintro e w' ⟨rfl, rfl⟩))
    go_quiet ((go_at_call 38; exact Calls.quiet_of_same (same_swap (wideOf_any _ _ _ k0 k1))))
    go_wp2_with fail
    go_ret
    exact ⟨rfl, _, rfl⟩
  · simp at hR
    have kx : ix = 1 ∨ ix = 2 ∨ (ix ≠ 1 ∧ ix ≠ 2) := by omega
    rcases kx with rfl | rfl | ⟨x1, x2⟩
    · simp at hR
      subst hR
      have HI : Hid (∀ w, Calls Tryz.prog 62 #[.pointer (some ⟨g, 0, none⟩), .int .i64 1] w fun e w' => e = .returned (.pointer (some ⟨g, 19, none⟩)) ∧ w = w') := HI
      have c0 : w.cell? ⟨g, 19, none⟩ = some (.int .u16 r.ix) := hb.cell 19
      go_enter Tryz.func44, Tryz.ntmps44
      go_wp2_with (first | (go_at_call 62; refine (HI.out _).mono ?_; rintro e w' ⟨rfl, rfl⟩))
      go_ret
      exact ⟨rfl, 0, rfl⟩
    · simp at hR
      subst hR
      have HI : Hid (∀ w, Calls Tryz.prog 62 #[.pointer (some ⟨g, 0, none⟩), .int .i64 2] w fun e w' => e = .returned (.pointer (some ⟨g, 20, none⟩)) ∧ w = w') := HI
      have c0 : w.cell? ⟨g, 20, none⟩ = some (.int .u16 r.iy) := hb.cell 20
      go_enter Tryz.func44, Tryz.ntmps44
      go_wp2_with (first | (go_at_call 62; refine (HI.out _).mono ?_; rintro e w' ⟨rfl, rfl⟩))
      go_ret
      exact ⟨rfl, 0, rfl⟩
    · rw [if_neg x1, if_neg x2] at hR
      subst hR
      have HI : Hid (∀ w, Calls Tryz.prog 62 #[.pointer (some ⟨g, 0, none⟩), .int .i64 ix] w fun e w' => e = .returned (.pointer (none)) ∧ w = w') := by
          have h := HI.out
          unfold idxP at h
          rw [if_neg x1, if_neg x2] at h
          exact h
      have c0 : w.cell? ⟨g, 6, none⟩ = some (.int .u8 r.h) := hb.cell 6
      have c1 : w.cell? ⟨g, 7, none⟩ = some (.int .u8 r.l) := hb.cell 7
      have k0 := hr.h
      have k1 := hr.l
      go_enter Tryz.func44, Tryz.ntmps44
      go_wp2_with (first | (go_at_call 62; refine (HI.out _).mono ?_; rintro e w' ⟨rfl, rfl⟩))
      go_quiet ((go_at_call 38; exact Calls.quiet_of_same (same_swap (wideOf_any _ _ _ k0 k1))))
      go_wp2_with fail
      go_ret
      exact ⟨rfl, _, rfl⟩
  · simp at hR
    subst hR
    have c0 : w.cell? ⟨g, 21, none⟩ = some (.int .u16 r.sp) := hb.cell 21
    go_enter Tryz.func44, Tryz.ntmps44
    go_wp2_with fail
    go_ret
    exact ⟨rfl, 0, rfl⟩
  · rw [if_neg n0, if_neg n1, if_neg n2, if_neg n3] at hR
    subst hR
    have b0 : (k == 0) = false := by simp [n0]
    have b1 : (k == 1) = false := by simp [n1]
    have b2 : (k == 2) = false := by simp [n2]
    have b3 : (k == 3) = false := by simp [n3]
    go_enter Tryz.func44, Tryz.ntmps44
    go_wp2_with fail
    go_ret
    exact ⟨rfl, 0, rfl⟩
/-- a byte by its number -/
def Rg.byte (r : Rg) (k ix : Int) : Int :=
  if k = 0 then r.b else if k = 1 then r.c else if k = 2 then r.d else if k = 3 then r.e else
  if k = 4 then (if ix = 1 then r.ix / 256 else if ix = 2 then r.iy / 256 else r.h) else if k = 5 then (if ix = 1 then r.ix % 256 else if ix = 2 then r.iy % 256 else r.l) else if k = 7 then r.a else 0
set_option maxHeartbeats 4000000 in
theorem byte_any (r : Rg) (T : TypeId) (X : List Value) (g : Nat) (k ix : Int) (w : World) (hb : Blk w g T (r.cells ++ X)) (hr : r.Ok) :
    Calls Tryz.prog 77 #[.pointer (some ⟨g, 0, none⟩), .int .i64 k, .int .i64 ix] w fun e w' => e = .returned (.int .u8 (r.byte k ix)) ∧ w = w' := by
  obtain ⟨R, hR⟩ : ∃ R, R = r.byte k ix := ⟨_, rfl⟩
  rw [← hR]
  unfold Rg.byte at hR
  have HI := Lib.hid (fun w => index_any g ix w)
  have HP := Lib.hid (fun w => rplace_any g k w)
  have wx := hr.ix
  have wy := hr.iy
  have kx : ix = 1 ∨ ix = 2 ∨ (ix ≠ 1 ∧ ix ≠ 2) := by omega
  have kk : k = 4 ∨ k = 5 ∨ k = 0 ∨ k = 1 ∨ k = 2 ∨ k = 3 ∨ k = 7 ∨ (k ≠ 0 ∧ k ≠ 1 ∧ k ≠ 2 ∧ k ≠ 3 ∧ k ≠ 4 ∧ k ≠ 5 ∧ k ≠ 7) := by omega
  rcases kx with rfl | rfl | ⟨x1, x2⟩
  · have HI : Hid (∀ w, Calls Tryz.prog 62 #[.pointer (some ⟨g, 0, none⟩), .int .i64 1] w fun e w' => e = .returned (.pointer (some ⟨g, 19, none⟩)) ∧ w = w') := HI
    rcases kk with rfl | rfl | rfl | rfl | rfl | rfl | rfl | ⟨n0, n1, n2, n3, n4, n5, n7⟩
    · simp at hR
      subst hR
      have c0 : w.cell? ⟨g, 19, none⟩ = some (.int .u16 r.ix) := hb.cell 19
      go_enter Tryz.func77, Tryz.ntmps77
      go_wp2_with (first
        | (go_at_call 62; refine (HI.out _).mono ?_; rintro e w' ⟨rfl, rfl⟩)
        | (go_at_call 121; refine (HP.out _).mono ?_; rintro e w' ⟨rfl, rfl⟩)
        | (go_at_call 76; refine (wideHi_any _ _ wx).mono ?_; rintro e w' ⟨rfl, rfl⟩)
        | (go_at_call 70; refine (wideLo_any _ _ wx).mono ?_; rintro e w' ⟨rfl, rfl⟩))
      go_ret
      exact ⟨rfl, rfl⟩
    · simp at hR
      subst hR
      have c0 : w.cell? ⟨g, 19, none⟩ = some (.int .u16 r.ix) := hb.cell 19
      go_enter Tryz.func77, Tryz.ntmps77
      go_wp2_with (first
        | (go_at_call 62; refine (HI.out _).mono ?_; rintro e w' ⟨rfl, rfl⟩)
        | (go_at_call 121; refine (HP.out _).mono ?_; rintro e w' ⟨rfl, rfl⟩)
        | (go_at_call 76; refine (wideHi_any _ _ wx).mono ?_; rintro e w' ⟨rfl, rfl⟩)
        | (go_at_call 70; refine (wideLo_any _ _ wx).mono ?_; rintro e w' ⟨rfl, rfl⟩))
      go_ret
      exact ⟨rfl, rfl⟩
    · simp at hR
      subst hR
      have HP : Hid (∀ w, Calls Tryz.prog 121 #[.pointer (some ⟨g, 0, none⟩), .int .i64 0] w fun e w' => e = .returned (.pointer (some ⟨g, 2, none⟩)) ∧ w = w') := HP
      have c0 : w.cell? ⟨g, 2, none⟩ = some (.int .u8 r.b) := hb.cell 2
      go_enter Tryz.func77, Tryz.ntmps77
      go_wp2_with (first
        | (go_at_call 62; refine (HI.out _).mono ?_; rintro e w' ⟨rfl, rfl⟩)
        | (go_at_call 121; refine (HP.out _).mono ?_; rintro e w' ⟨rfl, rfl⟩)
        | (go_at_call 76; refine (wideHi_any _ _ wx).mono ?_; rintro e w' ⟨rfl, rfl⟩)
        | (go_at_call 70; refine (wideLo_any _ _ wx).mono ?_; rintro e w' ⟨rfl, rfl⟩))
      go_ret
      exact ⟨rfl, rfl⟩
    · simp at hR
      subst hR
      have HP : Hid (∀ w, Calls Tryz.prog 121 #[.pointer (some ⟨g, 0, none⟩), .int .i64 1] w fun e w' => e = .returned (.pointer (some ⟨g, 3, none⟩)) ∧ w = w') := HP
      have c0 : w.cell? ⟨g, 3, none⟩ = some (.int .u8 r.c) := hb.cell 3
      go_enter Tryz.func77, Tryz.ntmps77
      go_wp2_with (first
        | (go_at_call 62; refine (HI.out _).mono ?_; rintro e w' ⟨rfl, rfl⟩)
        | (go_at_call 121; refine (HP.out _).mono ?_; rintro e w' ⟨rfl, rfl⟩)
        | (go_at_call 76; refine (wideHi_any _ _ wx).mono ?_; rintro e w' ⟨rfl, rfl⟩)
        | (go_at_call 70; refine (wideLo_any _ _ wx).mono ?_; rintro e w' ⟨rfl, rfl⟩))
      go_ret
      exact ⟨rfl, rfl⟩
    · simp at hR
      subst hR
      have HP : Hid (∀ w, Calls Tryz.prog 121 #[.pointer (some ⟨g, 0, none⟩), .int .i64 2] w fun e w' => e = .returned (.pointer (some ⟨g, 4, none⟩)) ∧ w = w') := HP
      have c0 : w.cell? ⟨g, 4, none⟩ = some (.int .u8 r.d) := hb.cell 4
      go_enter Tryz.func77, Tryz.ntmps77
      go_wp2_with (first
        | (go_at_call 62; refine (HI.out _).mono ?_; rintro e w' ⟨rfl, rfl⟩)
        | (go_at_call 121; refine (HP.out _).mono ?_; rintro e w' ⟨rfl, rfl⟩)
        | (go_at_call 76; refine (wideHi_any _ _ wx).mono ?_; rintro e w' ⟨rfl, rfl⟩)
        | (go_at_call 70; refine (wideLo_any _ _ wx).mono ?_; rintro e w' ⟨rfl, rfl⟩))
      go_ret
      exact ⟨rfl, rfl⟩
    · simp at hR
      subst hR
      have HP : Hid (∀ w, Calls Tryz.prog 121 #[.pointer (some ⟨g, 0, none⟩), .int .i64 3] w fun e w' => e = .returned (.pointer (some ⟨g, 5, none⟩)) ∧ w = w') := HP
      have c0 : w.cell? ⟨g, 5, none⟩ = some (.int .u8 r.e) := hb.cell 5
      go_enter Tryz.func77, Tryz.ntmps77
      go_wp2_with (first
        | (go_at_call 62; refine (HI.out _).mono ?_; rintro e w' ⟨rfl, rfl⟩)
        | (go_at_call 121; refine (HP.out _).mono ?_; rintro e w' ⟨rfl, rfl⟩)
        | (go_at_call 76; refine (wideHi_any _ _ wx).mono ?_; rintro e w' ⟨rfl, rfl⟩)
        | (go_at_call 70; refine (wideLo_any _ _ wx).mono ?_; rintro e w' ⟨rfl, rfl⟩))
      go_ret
      exact ⟨rfl, rfl⟩
    · simp at hR
      subst hR
      have HP : Hid (∀ w, Calls Tryz.prog 121 #[.pointer (some ⟨g, 0, none⟩), .int .i64 7] w fun e w' => e = .returned (.pointer (some ⟨g, 0, none⟩)) ∧ w = w') := HP
      have c0 : w.cell? ⟨g, 0, none⟩ = some (.int .u8 r.a) := hb.cell 0
      go_enter Tryz.func77, Tryz.ntmps77
      go_wp2_with (first
        | (go_at_call 62; refine (HI.out _).mono ?_; rintro e w' ⟨rfl, rfl⟩)
        | (go_at_call 121; refine (HP.out _).mono ?_; rintro e w' ⟨rfl, rfl⟩)
        | (go_at_call 76; refine (wideHi_any _ _ wx).mono ?_; rintro e w' ⟨rfl, rfl⟩)
        | (go_at_call 70; refine (wideLo_any _ _ wx).mono ?_; rintro e w' ⟨rfl, rfl⟩))
      go_ret
      exact ⟨rfl, rfl⟩
    · rw [if_neg n0, if_neg n1, if_neg n2, if_neg n3, if_neg n4, if_neg n5, if_neg n7] at hR
      subst hR
      have HP : Hid (∀ w, Calls Tryz.prog 121 #[.pointer (some ⟨g, 0, none⟩), .int .i64 k] w fun e w' => e = .returned (.pointer none) ∧ w = w') := by
        have h := HP.out
        unfold plcP at h
        rw [if_neg n0, if_neg n1, if_neg n2, if_neg n3, if_neg n4, if_neg n5, if_neg n7] at h
        exact h
      have b4 : (k == 4) = false := by simp [n4]
      have b5 : (k == 5) = false := by simp [n5]
      go_enter Tryz.func77, Tryz.ntmps77
      go_wp2_with (first
        | (go_at_call 62; refine (HI.out _).mono ?_; rintro e w' ⟨rfl, rfl⟩)
        | (go_at_call 121; refine (HP.out _).mono ?_; rintro e w' ⟨rfl, rfl⟩)
        | (go_at_call 76; refine (wideHi_any _ _ wx).mono ?_; rintro e w' ⟨rfl, rfl⟩)
        | (go_at_call 70; refine (wideLo_any _ _ wx).mono ?_; rintro e w' ⟨rfl, rfl⟩))
      go_ret
      exact ⟨rfl, rfl⟩
  · have HI : Hid (∀ w, Calls Tryz.prog 62 #[.pointer (some ⟨g, 0, none⟩), .int .i64 2] w fun e w' => e = .returned (.pointer (some ⟨g, 20, none⟩)) ∧ w = w') := HI
    rcases kk with rfl | rfl | rfl | rfl | rfl | rfl | rfl | ⟨n0, n1, n2, n3, n4, n5, n7⟩
    · simp at hR
      subst hR
      have c0 : w.cell? ⟨g, 20, none⟩ = some (.int .u16 r.iy) := hb.cell 20
      go_enter Tryz.func77, Tryz.ntmps77
      go_wp2_with (first
        | (go_at_call 62; refine (HI.out _).mono ?_; rintro e w' ⟨rfl, rfl⟩)
        | (go_at_call 121; refine (HP.out _).mono ?_; rintro e w' ⟨rfl, rfl⟩)
        | (go_at_call 76; refine (wideHi_any _ _ wy).mono ?_; rintro e w' ⟨rfl, rfl⟩)
        | (go_at_call 70; refine (wideLo_any _ _ wy).mono ?_; rintro e w' ⟨rfl, rfl⟩))
      go_ret
      exact ⟨rfl, rfl⟩
    · simp at hR
      subst hR
      have c0 : w.cell? ⟨g, 20, none⟩ = some (.int .u16 r.iy) := hb.cell 20
      go_enter Tryz.func77, Tryz.ntmps77
      go_wp2_with (first
        | (go_at_call 62; refine (HI.out _).mono ?_; rintro e w' ⟨rfl, rfl⟩)
        | (go_at_call 121; refine (HP.out _).mono ?_; rintro e w' ⟨rfl, rfl⟩)
        | (go_at_call 76; refine (wideHi_any _ _ wy).mono ?_; rintro e w' ⟨rfl, rfl⟩)
        | (go_at_call 70; refine (wideLo_any _ _ wy).mono ?_; rintro e w' ⟨rfl, rfl⟩))
      go_ret
      exact ⟨rfl, rfl⟩
    · simp at hR
      subst hR
      have HP : Hid (∀ w, Calls Tryz.prog 121 #[.pointer (some ⟨g, 0, none⟩), .int .i64 0] w fun e w' => e = .returned (.pointer (some ⟨g, 2, none⟩)) ∧ w = w') := HP
      have c0 : w.cell? ⟨g, 2, none⟩ = some (.int .u8 r.b) := hb.cell 2
      go_enter Tryz.func77, Tryz.ntmps77
      go_wp2_with (first
        | (go_at_call 62; refine (HI.out _).mono ?_; rintro e w' ⟨rfl, rfl⟩)
        | (go_at_call 121; refine (HP.out _).mono ?_; rintro e w' ⟨rfl, rfl⟩)
        | (go_at_call 76; refine (wideHi_any _ _ wx).mono ?_; rintro e w' ⟨rfl, rfl⟩)
        | (go_at_call 70; refine (wideLo_any _ _ wx).mono ?_; rintro e w' ⟨rfl, rfl⟩))
      go_ret
      exact ⟨rfl, rfl⟩
    · simp at hR
      subst hR
      have HP : Hid (∀ w, Calls Tryz.prog 121 #[.pointer (some ⟨g, 0, none⟩), .int .i64 1] w fun e w' => e = .returned (.pointer (some ⟨g, 3, none⟩)) ∧ w = w') := HP
      have c0 : w.cell? ⟨g, 3, none⟩ = some (.int .u8 r.c) := hb.cell 3
      go_enter Tryz.func77, Tryz.ntmps77
      go_wp2_with (first
        | (go_at_call 62; refine (HI.out _).mono ?_; rintro e w' ⟨rfl, rfl⟩)
        | (go_at_call 121; refine (HP.out _).mono ?_; rintro e w' ⟨rfl, rfl⟩)
        | (go_at_call 76; refine (wideHi_any _ _ wx).mono ?_; rintro e w' ⟨rfl, rfl⟩)
        | (go_at_call 70; refine (wideLo_any _ _ wx).mono ?_; rintro e w' ⟨rfl, rfl⟩))
      go_ret
      exact ⟨rfl, rfl⟩
    · simp at hR
      subst hR
      have HP : Hid (∀ w, Calls Tryz.prog 121 #[.pointer (some ⟨g, 0, none⟩), .int .i64 2] w fun e w' => e = .returned (.pointer (some ⟨g, 4, none⟩)) ∧ w = w') := HP
      have c0 : w.cell? ⟨g, 4, none⟩ = some (.int .u8 r.d) := hb.cell 4
      go_enter Tryz.func77, Tryz.ntmps77
      go_wp2_with (first
        | (go_at_call 62; refine (HI.out _).mono ?_; rintro e w' ⟨rfl, rfl⟩)
        | (go_at_call 121; refine (HP.out _).mono ?_; rintro e w' ⟨rfl, rfl⟩)
        | (go_at_call 76; refine (wideHi_any _ _ wx).mono ?_; rintro e w' ⟨rfl, rfl⟩)
        | (go_at_call 70; refine (wideLo_any _ _ wx).mono ?_; rintro e w' ⟨rfl, rfl⟩))
      go_ret
      exact ⟨rfl, rfl⟩
    · simp at hR
      subst hR
      have HP : Hid (∀ w, Calls Tryz.prog 121 #[.pointer (some ⟨g, 0, none⟩), .int .i64 3] w fun e w' => e = .returned (.pointer (some ⟨g, 5, none⟩)) ∧ w = w') := HP
      have c0 : w.cell? ⟨g, 5, none⟩ = some (.int .u8 r.e) := hb.cell 5
      go_enter Tryz.func77, Tryz.ntmps77
      go_wp2_with (first
        | (go_at_call 62; refine (HI.out _).mono ?_; rintro e w' ⟨rfl, rfl⟩)
        | (go_at_call 121; refine (HP.out _).mono ?_; rintro e w' ⟨rfl, rfl⟩)
        | (go_at_call 76; refine (wideHi_any _ _ wx).mono ?_; rintro e w' ⟨rfl, rfl⟩)
        | (go_at_call 70; refine (wideLo_any _ _ wx).mono ?_; rintro e w' ⟨rfl, rfl⟩))
      go_ret
      exact ⟨rfl, rfl⟩
    · simp at hR
      subst hR
      have HP : Hid (∀ w, Calls Tryz.prog 121 #[.pointer (some ⟨g, 0, none⟩), .int .i64 7] w fun e w' => e = .returned (.pointer (some ⟨g, 0, none⟩)) ∧ w = w') := HP
      have c0 : w.cell? ⟨g, 0, none⟩ = some (.int .u8 r.a) := hb.cell 0
      go_enter Tryz.func77, Tryz.ntmps77
      go_wp2_with (first
        | (go_at_call 62; refine (HI.out _).mono ?_; rintro e w' ⟨rfl, rfl⟩)
        | (go_at_call 121; refine (HP.out _).mono ?_; rintro e w' ⟨rfl, rfl⟩)
        | (go_at_call 76; refine (wideHi_any _ _ wx).mono ?_; rintro e w' ⟨rfl, rfl⟩)
        | (go_at_call 70; refine (wideLo_any _ _ wx).mono ?_; rintro e w' ⟨rfl, rfl⟩))
      go_ret
      exact ⟨rfl, rfl⟩
    · rw [if_neg n0, if_neg n1, if_neg n2, if_neg n3, if_neg n4, if_neg n5, if_neg n7] at hR
      subst hR
      have HP : Hid (∀ w, Calls Tryz.prog 121 #[.pointer (some ⟨g, 0, none⟩), .int .i64 k] w fun e w' => e = .returned (.pointer none) ∧ w = w') := by
        have h := HP.out
        unfold plcP at h
        rw [if_neg n0, if_neg n1, if_neg n2, if_neg n3, if_neg n4, if_neg n5, if_neg n7] at h
        exact h
      have b4 : (k == 4) = false := by simp [n4]
      have b5 : (k == 5) = false := by simp [n5]
      go_enter Tryz.func77, Tryz.ntmps77
      go_wp2_with (first
        | (go_at_call 62; refine (HI.out _).mono ?_; rintro e w' ⟨rfl, rfl⟩)
        | (go_at_call 121; refine (HP.out _).mono ?_; rintro e w' ⟨rfl, rfl⟩)
        | (go_at_call 76; refine (wideHi_any _ _ wx).mono ?_; rintro e w' ⟨rfl, rfl⟩)
        | (go_at_call 70; refine (wideLo_any _ _ wx).mono ?_; rintro e w' ⟨rfl, rfl⟩))
      go_ret
      exact ⟨rfl, rfl⟩
  · have HI : Hid (∀ w, Calls Tryz.prog 62 #[.pointer (some ⟨g, 0, none⟩), .int .i64 ix] w fun e w' => e = .returned (.pointer (none)) ∧ w = w') := by
        have h := HI.out
        unfold idxP at h
        rw [if_neg x1, if_neg x2] at h
        exact h
    rcases kk with rfl | rfl | rfl | rfl | rfl | rfl | rfl | ⟨n0, n1, n2, n3, n4, n5, n7⟩
    · simp [x1, x2] at hR
      subst hR
      have HP : Hid (∀ w, Calls Tryz.prog 121 #[.pointer (some ⟨g, 0, none⟩), .int .i64 4] w fun e w' => e = .returned (.pointer (some ⟨g, 6, none⟩)) ∧ w = w') := HP
      have c0 : w.cell? ⟨g, 6, none⟩ = some (.int .u8 r.h) := hb.cell 6
      go_enter Tryz.func77, Tryz.ntmps77
      go_wp2_with (first
        | (go_at_call 62; refine (HI.out _).mono ?_; rintro e w' ⟨rfl, rfl⟩)
        | (go_at_call 121; refine (HP.out _).mono ?_; rintro e w' ⟨rfl, rfl⟩)
        | (go_at_call 76; refine (wideHi_any _ _ wx).mono ?_; rintro e w' ⟨rfl, rfl⟩)
        | (go_at_call 70; refine (wideLo_any _ _ wx).mono ?_; rintro e w' ⟨rfl, rfl⟩))
      go_ret
      exact ⟨rfl, rfl⟩
    · simp [x1, x2] at hR
      subst hR
      have HP : Hid (∀ w, Calls Tryz.prog 121 #[.pointer (some ⟨g, 0, none⟩), .int .i64 5] w fun e w' => e = .returned (.pointer (some ⟨g, 7, none⟩)) ∧ w = w') := HP
      have c0 : w.cell? ⟨g, 7, none⟩ = some (.int .u8 r.l) := hb.cell 7
      go_enter Tryz.func77, Tryz.ntmps77
      go_wp2_with (first
        | (go_at_call 62; refine (HI.out _).mono ?_; rintro e w' ⟨rfl, rfl⟩)
        | (go_at_call 121; refine (HP.out _).mono ?_; rintro e w' ⟨rfl, rfl⟩)
        | (go_at_call 76; refine (wideHi_any _ _ wx).mono ?_; rintro e w' ⟨rfl, rfl⟩)
        | (go_at_call 70; refine (wideLo_any _ _ wx).mono ?_; rintro e w' ⟨rfl, rfl⟩))
      go_ret
      exact ⟨rfl, rfl⟩
    · simp [x1, x2] at hR
      subst hR
      have HP : Hid (∀ w, Calls Tryz.prog 121 #[.pointer (some ⟨g, 0, none⟩), .int .i64 0] w fun e w' => e = .returned (.pointer (some ⟨g, 2, none⟩)) ∧ w = w') := HP
      have c0 : w.cell? ⟨g, 2, none⟩ = some (.int .u8 r.b) := hb.cell 2
      go_enter Tryz.func77, Tryz.ntmps77
      go_wp2_with (first
        | (go_at_call 62; refine (HI.out _).mono ?_; rintro e w' ⟨rfl, rfl⟩)
        | (go_at_call 121; refine (HP.out _).mono ?_; rintro e w' ⟨rfl, rfl⟩)
        | (go_at_call 76; refine (wideHi_any _ _ wx).mono ?_; rintro e w' ⟨rfl, rfl⟩)
        | (go_at_call 70; refine (wideLo_any _ _ wx).mono ?_; rintro e w' ⟨rfl, rfl⟩))
      go_ret
      exact ⟨rfl, rfl⟩
    · simp [x1, x2] at hR
      subst hR
      have HP : Hid (∀ w, Calls Tryz.prog 121 #[.pointer (some ⟨g, 0, none⟩), .int .i64 1] w fun e w' => e = .returned (.pointer (some ⟨g, 3, none⟩)) ∧ w = w') := HP
      have c0 : w.cell? ⟨g, 3, none⟩ = some (.int .u8 r.c) := hb.cell 3
      go_enter Tryz.func77, Tryz.ntmps77
      go_wp2_with (first
        | (go_at_call 62; refine (HI.out _).mono ?_; rintro e w' ⟨rfl, rfl⟩)
        | (go_at_call 121; refine (HP.out _).mono ?_; rintro e w' ⟨rfl, rfl⟩)
        | (go_at_call 76; refine (wideHi_any _ _ wx).mono ?_; rintro e w' ⟨rfl, rfl⟩)
        | (go_at_call 70; refine (wideLo_any _ _ wx).mono ?_; rintro e w' ⟨rfl, rfl⟩))
      go_ret
      exact ⟨rfl, rfl⟩
    · simp [x1, x2] at hR
      subst hR
      have HP : Hid (∀ w, Calls Tryz.prog 121 #[.pointer (some ⟨g, 0, none⟩), .int .i64 2] w fun e w' => e = .returned (.pointer (some ⟨g, 4, none⟩)) ∧ w = w') := HP
      have c0 : w.cell? ⟨g, 4, none⟩ = some (.int .u8 r.d) := hb.cell 4
      go_enter Tryz.func77, Tryz.ntmps77
      go_wp2_with (first
        | (go_at_call 62; refine (HI.out _).mono ?_; rintro e w' ⟨rfl, rfl⟩)
        | (go_at_call 121; refine (HP.out _).mono ?_; rintro e w' ⟨rfl, rfl⟩)
        | (go_at_call 76; refine (wideHi_any _ _ wx).mono ?_; rintro e w' ⟨rfl, rfl⟩)
        | (go_at_call 70; refine (wideLo_any _ _ wx).mono ?_; rintro e w' ⟨rfl, rfl⟩))
      go_ret
      exact ⟨rfl, rfl⟩
    · simp [x1, x2] at hR
      subst hR
      have HP : Hid (∀ w, Calls Tryz.prog 121 #[.pointer (some ⟨g, 0, none⟩), .int .i64 3] w fun e w' => e = .returned (.pointer (some ⟨g, 5, none⟩)) ∧ w = w') := HP
      have c0 : w.cell? ⟨g, 5, none⟩ = some (.int .u8 r.e) := hb.cell 5
      go_enter Tryz.func77, Tryz.ntmps77
      go_wp2_with (first
        | (go_at_call 62; refine (HI.out _).mono ?_; rintro e w' ⟨rfl, rfl⟩)
        | (go_at_call 121; refine (HP.out _).mono ?_; rintro e w' ⟨rfl, rfl⟩)
        | (go_at_call 76; refine (wideHi_any _ _ wx).mono ?_; rintro e w' ⟨rfl, rfl⟩)
        | (go_at_call 70; refine (wideLo_any _ _ wx).mono ?_; rintro e w' ⟨rfl, rfl⟩))
      go_ret
      exact ⟨rfl, rfl⟩
    · simp [x1, x2] at hR
      subst hR
      have HP : Hid (∀ w, Calls Tryz.prog 121 #[.pointer (some ⟨g, 0, none⟩), .int .i64 7] w fun e w' => e = .returned (.pointer (some ⟨g, 0, none⟩)) ∧ w = w') := HP
      have c0 : w.cell? ⟨g, 0, none⟩ = some (.int .u8 r.a) := hb.cell 0
      go_enter Tryz.func77, Tryz.ntmps77
      go_wp2_with (first
        | (go_at_call 62; refine (HI.out _).mono ?_; rintro e w' ⟨rfl, rfl⟩)
        | (go_at_call 121; refine (HP.out _).mono ?_; rintro e w' ⟨rfl, rfl⟩)
        | (go_at_call 76; refine (wideHi_any _ _ wx).mono ?_; rintro e w' ⟨rfl, rfl⟩)
        | (go_at_call 70; refine (wideLo_any _ _ wx).mono ?_; rintro e w' ⟨rfl, rfl⟩))
      go_ret
      exact ⟨rfl, rfl⟩
    · rw [if_neg n0, if_neg n1, if_neg n2, if_neg n3, if_neg n4, if_neg n5, if_neg n7] at hR
      subst hR
      have HP : Hid (∀ w, Calls Tryz.prog 121 #[.pointer (some ⟨g, 0, none⟩), .int .i64 k] w fun e w' => e = .returned (.pointer none) ∧ w = w') := by
        have h := HP.out
        unfold plcP at h
        rw [if_neg n0, if_neg n1, if_neg n2, if_neg n3, if_neg n4, if_neg n5, if_neg n7] at h
        exact h
      have b4 : (k == 4) = false := by simp [n4]
      have b5 : (k == 5) = false := by simp [n5]
      go_enter Tryz.func77, Tryz.ntmps77
      go_wp2_with (first
        | (go_at_call 62; refine (HI.out _).mono ?_; rintro e w' ⟨rfl, rfl⟩)
        | (go_at_call 121; refine (HP.out _).mono ?_; rintro e w' ⟨rfl, rfl⟩)
        | (go_at_call 76; refine (wideHi_any _ _ wx).mono ?_; rintro e w' ⟨rfl, rfl⟩)
        | (go_at_call 70; refine (wideLo_any _ _ wx).mono ?_; rintro e w' ⟨rfl, rfl⟩))
      go_ret
      exact ⟨rfl, rfl⟩
end Go.Proofs.YtbhpmnhlmeglcaaGreat
