/- cpu: bytes that go out. -/
import Derived.Test.YtbhpmnhlmeglcaaGreatCpuB
namespace Go.Proofs.YtbhpmnhlmeglcaaGreat
set_option linter.unusedSimpArgs false
set_option linter.unusedVariables false
open Go.RowKit
set_option maxHeartbeats 400000 in
theorem cpu_x (c : Int) (w : World) (hc : B8 c) : Calls Tryz.prog 116 #[.int .u8 c] w fun e w' => e = .returned (.int .i64 (c / 64)) ∧ w = w' := by
  obtain ⟨h0, h1⟩ := hc
  skip
  go_enter Tryz.func116, Tryz.ntmps116
  go_wp2
  go_ret
  exact ⟨rfl, rfl⟩
set_option maxHeartbeats 400000 in
theorem cpu_y (c : Int) (w : World) (hc : B8 c) : Calls Tryz.prog 49 #[.int .u8 c] w fun e w' => e = .returned (.int .i64 (c / 8 % 8)) ∧ w = w' := by
  obtain ⟨h0, h1⟩ := hc
  have e := u8_and_7 (c / 8) (by omega) (by omega)
  go_enter Tryz.func49, Tryz.ntmps49
  go_wp2
  go_ret
  exact ⟨rfl, rfl⟩
set_option maxHeartbeats 400000 in
theorem cpu_z (c : Int) (w : World) (hc : B8 c) : Calls Tryz.prog 50 #[.int .u8 c] w fun e w' => e = .returned (.int .i64 (c % 8)) ∧ w = w' := by
  obtain ⟨h0, h1⟩ := hc
  have e := u8_and_7 c (by omega) (by omega)
  go_enter Tryz.func50, Tryz.ntmps50
  go_wp2
  go_ret
  exact ⟨rfl, rfl⟩
set_option maxHeartbeats 400000 in
theorem cpu_p (c : Int) (w : World) (hc : B8 c) : Calls Tryz.prog 66 #[.int .u8 c] w fun e w' => e = .returned (.int .i64 (c / 16 % 4)) ∧ w = w' := by
  obtain ⟨h0, h1⟩ := hc
  have e := u8_and_3 (c / 16) (by omega) (by omega)
  go_enter Tryz.func66, Tryz.ntmps66
  go_wp2
  go_ret
  exact ⟨rfl, rfl⟩
theorem pair_b16 {r : Rg} (h : r.Ok) (k ix : Int) : B16 (r.pair k ix) := by
  obtain ⟨a1, a2⟩ := h.b; obtain ⟨b1, b2⟩ := h.c; obtain ⟨c1, c2⟩ := h.d; obtain ⟨d1, d2⟩ := h.e; obtain ⟨e1, e2⟩ := h.h; obtain ⟨f1, f2⟩ := h.l; obtain ⟨g1, g2⟩ := h.ix; obtain ⟨i1, i2⟩ := h.iy; obtain ⟨j1, j2⟩ := h.sp
  unfold Rg.pair B16
  split
  · omega
  · split
    · omega
    · split
      · split
        · omega
        · split <;> omega
      · split <;> omega
def Cp.pushed (c : Cp) : Int := if c.code / 16 % 4 = 3 then c.r.a * 256 + c.r.f else c.r.pair (c.code / 16 % 4) c.ix
theorem pushed_b16 {c : Cp} (h : c.Ok) : B16 c.pushed := by
  unfold Cp.pushed
  split
  · obtain ⟨a1, a2⟩ := h.r.a; obtain ⟨b1, b2⟩ := h.r.f
    exact ⟨by omega, by omega⟩
  · exact pair_b16 h.r _ _
set_option maxHeartbeats 2000000 in
theorem cp_pushed (g : Nat) (sv : Value) (c : Cp) (w : World) (h : CpAt w g sv c) (ho : c.Ok) :
    Calls Tryz.prog 88 #[.pointer (some ⟨g, 0, none⟩)] w fun e w' => e = .returned (.int .u16 c.pushed) ∧ Drew w w' := by
  have hb := h.blk
  have HO := Lib.hid ho
  have c32 : w.cell? ⟨g, 32, none⟩ = some (.int .u8 c.code) := hb.cell 32
  have c33 : w.cell? ⟨g, 33, none⟩ = some (.int .i64 c.ix) := hb.cell 33
  have HB := Lib.hid hb
  obtain ⟨P, hP⟩ : ∃ P, P = c.pushed := ⟨_, rfl⟩
  rw [← hP]
  unfold Cp.pushed at hP
  have hk := ho.code
  by_cases h3 : c.code / 16 % 4 = 3
  · rw [if_pos h3] at hP
    have e3 : (c.code / 16 % 4 == 3) = true := by rw [h3]; rfl
    subst hP
    clear h hb h3 ho
    go_enter Tryz.func88, Tryz.ntmps88
    go_wp2_with (first
      | (go_at_call 66; refine (cpu_p _ _ hk).mono ?_; rintro e w' ⟨rfl, rfl⟩)
      | (go_at_call 136; refine (af_any c.r 46 (c.tail sv) g _ HB.out HO.out.r).mono ?_; rintro e w' ⟨rfl, hd⟩))
    go_ret
    exact ⟨rfl, hd⟩
  · rw [if_neg h3] at hP
    have e3 : (c.code / 16 % 4 == 3) = false := by simpa using h3
    subst hP
    clear h hb h3 ho
    go_enter Tryz.func88, Tryz.ntmps88
    go_wp2_with (first
      | (go_at_call 66; refine (cpu_p _ _ hk).mono ?_; rintro e w' ⟨rfl, rfl⟩))
    go_quiet (first
      | (go_at_call 66; exact Calls.quiet_of_same (same_swap (cpu_p _ _ hk)))
      | (go_at_call 44; exact Calls.quiet_of (pair_any c.r 46 (c.tail sv) g _ _ _ (HB.out.drewN _) HO.out.r)))
    go_wp2_with fail
    go_ret
    exact ⟨rfl, _, rfl⟩
def Cp.byteV (c : Cp) (k : Int) : Int :=
  if k = 0 then c.lo else if k = 1 then c.hi else if k = 2 then c.r.a else if k = 3 then c.r.pair 2 c.ix / 256 else if k = 4 then c.r.pair 2 c.ix % 256 else if k = 6 then c.r.byte (c.code % 8) 0 else if k = 7 then c.r.pc / 256 else if k = 8 then c.r.pc % 256 else
  if k = 9 then c.r.pair (c.code / 16 % 4) 0 / 256 else if k = 10 then c.r.pair (c.code / 16 % 4) 0 % 256 else if k = 11 then c.pushed / 256 else if k = 12 then c.pushed % 256 else c.r.byte (c.code / 8 % 8) 0
def ByteP (v : Int) (w : World) (e : Ending) (w' : World) : Prop := e = .returned (.int .u8 v) ∧ Drew w w'
set_option maxHeartbeats 2000000 in
theorem cp_byte0 (g : Nat) (sv : Value) (c : Cp) (w : World) (h : CpAt w g sv c) (ho : c.Ok) :
    Calls Tryz.prog 53 #[.pointer (some ⟨g, 0, none⟩), .int .i64 0] w (ByteP (c.byteV 0) w) := by
  have hb := h.blk
  have HO := Lib.hid ho
  have H := Lib.hid h
  have c36 : w.cell? ⟨g, 36, none⟩ = some (.int .u8 c.lo) := hb.cell 36
  have HB := Lib.hid hb
  have hk := ho.code
  have hpc := ho.r.pc
  have hv : c.byteV 0 = c.lo := by simp [Cp.byteV]
  rw [hv]
  clear h hb ho hv
  go_enter Tryz.func53, Tryz.ntmps53
  go_wp2_with (first
    | (go_at_call 66; refine (cpu_p _ _ hk).mono ?_; rintro e w' ⟨rfl, rfl⟩)
    | (go_at_call 49; refine (cpu_y _ _ hk).mono ?_; rintro e w' ⟨rfl, rfl⟩)
    | (go_at_call 50; refine (cpu_z _ _ hk).mono ?_; rintro e w' ⟨rfl, rfl⟩)
    | (go_at_call 88; refine (cp_pushed g sv c _ H.out HO.out).mono ?_; rintro e w' ⟨rfl, hd⟩)
    | (go_at_call 44; refine (pair_any c.r 46 (c.tail sv) g _ _ _ HB.out HO.out.r).mono ?_; rintro e w' ⟨rfl, hd⟩)
    | (go_at_call 77; refine (byte_any c.r 46 (c.tail sv) g _ _ _ HB.out HO.out.r).mono ?_; rintro e w' ⟨rfl, hd⟩)
    | (go_at_call 76; refine (wideHi_any _ _ (by first | exact hpc | exact pair_b16 HO.out.r _ _ | exact pushed_b16 HO.out)).mono ?_; rintro e w2 ⟨rfl, rfl⟩)
    | (go_at_call 70; refine (wideLo_any _ _ (by first | exact hpc | exact pair_b16 HO.out.r _ _ | exact pushed_b16 HO.out)).mono ?_; rintro e w2 ⟨rfl, rfl⟩))
  go_ret
  exact ⟨rfl, 0, rfl⟩
set_option maxHeartbeats 2000000 in
theorem cp_byte1 (g : Nat) (sv : Value) (c : Cp) (w : World) (h : CpAt w g sv c) (ho : c.Ok) :
    Calls Tryz.prog 53 #[.pointer (some ⟨g, 0, none⟩), .int .i64 1] w (ByteP (c.byteV 1) w) := by
  have hb := h.blk
  have HO := Lib.hid ho
  have H := Lib.hid h
  have c37 : w.cell? ⟨g, 37, none⟩ = some (.int .u8 c.hi) := hb.cell 37
  have HB := Lib.hid hb
  have hk := ho.code
  have hpc := ho.r.pc
  have hv : c.byteV 1 = c.hi := by simp [Cp.byteV]
  rw [hv]
  clear h hb ho hv
  go_enter Tryz.func53, Tryz.ntmps53
  go_wp2_with (first
    | (go_at_call 66; refine (cpu_p _ _ hk).mono ?_; rintro e w' ⟨rfl, rfl⟩)
    | (go_at_call 49; refine (cpu_y _ _ hk).mono ?_; rintro e w' ⟨rfl, rfl⟩)
    | (go_at_call 50; refine (cpu_z _ _ hk).mono ?_; rintro e w' ⟨rfl, rfl⟩)
    | (go_at_call 88; refine (cp_pushed g sv c _ H.out HO.out).mono ?_; rintro e w' ⟨rfl, hd⟩)
    | (go_at_call 44; refine (pair_any c.r 46 (c.tail sv) g _ _ _ HB.out HO.out.r).mono ?_; rintro e w' ⟨rfl, hd⟩)
    | (go_at_call 77; refine (byte_any c.r 46 (c.tail sv) g _ _ _ HB.out HO.out.r).mono ?_; rintro e w' ⟨rfl, hd⟩)
    | (go_at_call 76; refine (wideHi_any _ _ (by first | exact hpc | exact pair_b16 HO.out.r _ _ | exact pushed_b16 HO.out)).mono ?_; rintro e w2 ⟨rfl, rfl⟩)
    | (go_at_call 70; refine (wideLo_any _ _ (by first | exact hpc | exact pair_b16 HO.out.r _ _ | exact pushed_b16 HO.out)).mono ?_; rintro e w2 ⟨rfl, rfl⟩))
  go_ret
  exact ⟨rfl, 0, rfl⟩
set_option maxHeartbeats 2000000 in
theorem cp_byte2 (g : Nat) (sv : Value) (c : Cp) (w : World) (h : CpAt w g sv c) (ho : c.Ok) :
    Calls Tryz.prog 53 #[.pointer (some ⟨g, 0, none⟩), .int .i64 2] w (ByteP (c.byteV 2) w) := by
  have hb := h.blk
  have HO := Lib.hid ho
  have H := Lib.hid h
  have c0 : w.cell? ⟨g, 0, none⟩ = some (.int .u8 c.r.a) := hb.cell 0
  have HB := Lib.hid hb
  have hk := ho.code
  have hpc := ho.r.pc
  have hv : c.byteV 2 = c.r.a := by simp [Cp.byteV]
  rw [hv]
  clear h hb ho hv
  go_enter Tryz.func53, Tryz.ntmps53
  go_wp2_with (first
    | (go_at_call 66; refine (cpu_p _ _ hk).mono ?_; rintro e w' ⟨rfl, rfl⟩)
    | (go_at_call 49; refine (cpu_y _ _ hk).mono ?_; rintro e w' ⟨rfl, rfl⟩)
    | (go_at_call 50; refine (cpu_z _ _ hk).mono ?_; rintro e w' ⟨rfl, rfl⟩)
    | (go_at_call 88; refine (cp_pushed g sv c _ H.out HO.out).mono ?_; rintro e w' ⟨rfl, hd⟩)
    | (go_at_call 44; refine (pair_any c.r 46 (c.tail sv) g _ _ _ HB.out HO.out.r).mono ?_; rintro e w' ⟨rfl, hd⟩)
    | (go_at_call 77; refine (byte_any c.r 46 (c.tail sv) g _ _ _ HB.out HO.out.r).mono ?_; rintro e w' ⟨rfl, hd⟩)
    | (go_at_call 76; refine (wideHi_any _ _ (by first | exact hpc | exact pair_b16 HO.out.r _ _ | exact pushed_b16 HO.out)).mono ?_; rintro e w2 ⟨rfl, rfl⟩)
    | (go_at_call 70; refine (wideLo_any _ _ (by first | exact hpc | exact pair_b16 HO.out.r _ _ | exact pushed_b16 HO.out)).mono ?_; rintro e w2 ⟨rfl, rfl⟩))
  go_ret
  exact ⟨rfl, 0, rfl⟩
set_option maxHeartbeats 2000000 in
theorem cp_byte3 (g : Nat) (sv : Value) (c : Cp) (w : World) (h : CpAt w g sv c) (ho : c.Ok) :
    Calls Tryz.prog 53 #[.pointer (some ⟨g, 0, none⟩), .int .i64 3] w (ByteP (c.byteV 3) w) := by
  have hb := h.blk
  have HO := Lib.hid ho
  have H := Lib.hid h
  have c33 : w.cell? ⟨g, 33, none⟩ = some (.int .i64 c.ix) := hb.cell 33
  have HB := Lib.hid hb
  have hk := ho.code
  have hpc := ho.r.pc
  have hv : c.byteV 3 = c.r.pair 2 c.ix / 256 := by simp [Cp.byteV]
  rw [hv]
  clear h hb ho hv
  go_enter Tryz.func53, Tryz.ntmps53
  go_wp2_with (first
    | (go_at_call 66; refine (cpu_p _ _ hk).mono ?_; rintro e w' ⟨rfl, rfl⟩)
    | (go_at_call 49; refine (cpu_y _ _ hk).mono ?_; rintro e w' ⟨rfl, rfl⟩)
    | (go_at_call 50; refine (cpu_z _ _ hk).mono ?_; rintro e w' ⟨rfl, rfl⟩)
    | (go_at_call 88; refine (cp_pushed g sv c _ H.out HO.out).mono ?_; rintro e w' ⟨rfl, hd⟩)
    | (go_at_call 44; refine (pair_any c.r 46 (c.tail sv) g _ _ _ HB.out HO.out.r).mono ?_; rintro e w' ⟨rfl, hd⟩)
    | (go_at_call 77; refine (byte_any c.r 46 (c.tail sv) g _ _ _ HB.out HO.out.r).mono ?_; rintro e w' ⟨rfl, hd⟩)
    | (go_at_call 76; refine (wideHi_any _ _ (by first | exact hpc | exact pair_b16 HO.out.r _ _ | exact pushed_b16 HO.out)).mono ?_; rintro e w2 ⟨rfl, rfl⟩)
    | (go_at_call 70; refine (wideLo_any _ _ (by first | exact hpc | exact pair_b16 HO.out.r _ _ | exact pushed_b16 HO.out)).mono ?_; rintro e w2 ⟨rfl, rfl⟩))
  go_ret
  exact ⟨rfl, hd⟩
set_option maxHeartbeats 2000000 in
theorem cp_byte4 (g : Nat) (sv : Value) (c : Cp) (w : World) (h : CpAt w g sv c) (ho : c.Ok) :
    Calls Tryz.prog 53 #[.pointer (some ⟨g, 0, none⟩), .int .i64 4] w (ByteP (c.byteV 4) w) := by
  have hb := h.blk
  have HO := Lib.hid ho
  have H := Lib.hid h
  have c33 : w.cell? ⟨g, 33, none⟩ = some (.int .i64 c.ix) := hb.cell 33
  have HB := Lib.hid hb
  have hk := ho.code
  have hpc := ho.r.pc
  have hv : c.byteV 4 = c.r.pair 2 c.ix % 256 := by simp [Cp.byteV]
  rw [hv]
  clear h hb ho hv
  go_enter Tryz.func53, Tryz.ntmps53
  go_wp2_with (first
    | (go_at_call 66; refine (cpu_p _ _ hk).mono ?_; rintro e w' ⟨rfl, rfl⟩)
    | (go_at_call 49; refine (cpu_y _ _ hk).mono ?_; rintro e w' ⟨rfl, rfl⟩)
    | (go_at_call 50; refine (cpu_z _ _ hk).mono ?_; rintro e w' ⟨rfl, rfl⟩)
    | (go_at_call 88; refine (cp_pushed g sv c _ H.out HO.out).mono ?_; rintro e w' ⟨rfl, hd⟩)
    | (go_at_call 44; refine (pair_any c.r 46 (c.tail sv) g _ _ _ HB.out HO.out.r).mono ?_; rintro e w' ⟨rfl, hd⟩)
    | (go_at_call 77; refine (byte_any c.r 46 (c.tail sv) g _ _ _ HB.out HO.out.r).mono ?_; rintro e w' ⟨rfl, hd⟩)
    | (go_at_call 76; refine (wideHi_any _ _ (by first | exact hpc | exact pair_b16 HO.out.r _ _ | exact pushed_b16 HO.out)).mono ?_; rintro e w2 ⟨rfl, rfl⟩)
    | (go_at_call 70; refine (wideLo_any _ _ (by first | exact hpc | exact pair_b16 HO.out.r _ _ | exact pushed_b16 HO.out)).mono ?_; rintro e w2 ⟨rfl, rfl⟩))
  go_ret
  exact ⟨rfl, hd⟩
set_option maxHeartbeats 2000000 in
theorem cp_byte6 (g : Nat) (sv : Value) (c : Cp) (w : World) (h : CpAt w g sv c) (ho : c.Ok) :
    Calls Tryz.prog 53 #[.pointer (some ⟨g, 0, none⟩), .int .i64 6] w (ByteP (c.byteV 6) w) := by
  have hb := h.blk
  have HO := Lib.hid ho
  have H := Lib.hid h
  have c32 : w.cell? ⟨g, 32, none⟩ = some (.int .u8 c.code) := hb.cell 32
  have HB := Lib.hid hb
  have hk := ho.code
  have hpc := ho.r.pc
  have hv : c.byteV 6 = c.r.byte (c.code % 8) 0 := by simp [Cp.byteV]
  rw [hv]
  clear h hb ho hv
  go_enter Tryz.func53, Tryz.ntmps53
  go_wp2_with (first
    | (go_at_call 66; refine (cpu_p _ _ hk).mono ?_; rintro e w' ⟨rfl, rfl⟩)
    | (go_at_call 49; refine (cpu_y _ _ hk).mono ?_; rintro e w' ⟨rfl, rfl⟩)
    | (go_at_call 50; refine (cpu_z _ _ hk).mono ?_; rintro e w' ⟨rfl, rfl⟩)
    | (go_at_call 88; refine (cp_pushed g sv c _ H.out HO.out).mono ?_; rintro e w' ⟨rfl, hd⟩)
    | (go_at_call 44; refine (pair_any c.r 46 (c.tail sv) g _ _ _ HB.out HO.out.r).mono ?_; rintro e w' ⟨rfl, hd⟩)
    | (go_at_call 77; refine (byte_any c.r 46 (c.tail sv) g _ _ _ HB.out HO.out.r).mono ?_; rintro e w' ⟨rfl, hd⟩)
    | (go_at_call 76; refine (wideHi_any _ _ (by first | exact hpc | exact pair_b16 HO.out.r _ _ | exact pushed_b16 HO.out)).mono ?_; rintro e w2 ⟨rfl, rfl⟩)
    | (go_at_call 70; refine (wideLo_any _ _ (by first | exact hpc | exact pair_b16 HO.out.r _ _ | exact pushed_b16 HO.out)).mono ?_; rintro e w2 ⟨rfl, rfl⟩))
  go_ret
  exact ⟨rfl, 0, hd.symm⟩
set_option maxHeartbeats 2000000 in
theorem cp_byte7 (g : Nat) (sv : Value) (c : Cp) (w : World) (h : CpAt w g sv c) (ho : c.Ok) :
    Calls Tryz.prog 53 #[.pointer (some ⟨g, 0, none⟩), .int .i64 7] w (ByteP (c.byteV 7) w) := by
  have hb := h.blk
  have HO := Lib.hid ho
  have H := Lib.hid h
  have c22 : w.cell? ⟨g, 22, none⟩ = some (.int .u16 c.r.pc) := hb.cell 22
  have HB := Lib.hid hb
  have hk := ho.code
  have hpc := ho.r.pc
  have hv : c.byteV 7 = c.r.pc / 256 := by simp [Cp.byteV]
  rw [hv]
  clear h hb ho hv
  go_enter Tryz.func53, Tryz.ntmps53
  go_wp2_with (first
    | (go_at_call 66; refine (cpu_p _ _ hk).mono ?_; rintro e w' ⟨rfl, rfl⟩)
    | (go_at_call 49; refine (cpu_y _ _ hk).mono ?_; rintro e w' ⟨rfl, rfl⟩)
    | (go_at_call 50; refine (cpu_z _ _ hk).mono ?_; rintro e w' ⟨rfl, rfl⟩)
    | (go_at_call 88; refine (cp_pushed g sv c _ H.out HO.out).mono ?_; rintro e w' ⟨rfl, hd⟩)
    | (go_at_call 44; refine (pair_any c.r 46 (c.tail sv) g _ _ _ HB.out HO.out.r).mono ?_; rintro e w' ⟨rfl, hd⟩)
    | (go_at_call 77; refine (byte_any c.r 46 (c.tail sv) g _ _ _ HB.out HO.out.r).mono ?_; rintro e w' ⟨rfl, hd⟩)
    | (go_at_call 76; refine (wideHi_any _ _ (by first | exact hpc | exact pair_b16 HO.out.r _ _ | exact pushed_b16 HO.out)).mono ?_; rintro e w2 ⟨rfl, rfl⟩)
    | (go_at_call 70; refine (wideLo_any _ _ (by first | exact hpc | exact pair_b16 HO.out.r _ _ | exact pushed_b16 HO.out)).mono ?_; rintro e w2 ⟨rfl, rfl⟩))
  go_ret
  exact ⟨rfl, 0, rfl⟩
set_option maxHeartbeats 2000000 in
theorem cp_byte8 (g : Nat) (sv : Value) (c : Cp) (w : World) (h : CpAt w g sv c) (ho : c.Ok) :
    Calls Tryz.prog 53 #[.pointer (some ⟨g, 0, none⟩), .int .i64 8] w (ByteP (c.byteV 8) w) := by
  have hb := h.blk
  have HO := Lib.hid ho
  have H := Lib.hid h
  have c22 : w.cell? ⟨g, 22, none⟩ = some (.int .u16 c.r.pc) := hb.cell 22
  have HB := Lib.hid hb
  have hk := ho.code
  have hpc := ho.r.pc
  have hv : c.byteV 8 = c.r.pc % 256 := by simp [Cp.byteV]
  rw [hv]
  clear h hb ho hv
  go_enter Tryz.func53, Tryz.ntmps53
  go_wp2_with (first
    | (go_at_call 66; refine (cpu_p _ _ hk).mono ?_; rintro e w' ⟨rfl, rfl⟩)
    | (go_at_call 49; refine (cpu_y _ _ hk).mono ?_; rintro e w' ⟨rfl, rfl⟩)
    | (go_at_call 50; refine (cpu_z _ _ hk).mono ?_; rintro e w' ⟨rfl, rfl⟩)
    | (go_at_call 88; refine (cp_pushed g sv c _ H.out HO.out).mono ?_; rintro e w' ⟨rfl, hd⟩)
    | (go_at_call 44; refine (pair_any c.r 46 (c.tail sv) g _ _ _ HB.out HO.out.r).mono ?_; rintro e w' ⟨rfl, hd⟩)
    | (go_at_call 77; refine (byte_any c.r 46 (c.tail sv) g _ _ _ HB.out HO.out.r).mono ?_; rintro e w' ⟨rfl, hd⟩)
    | (go_at_call 76; refine (wideHi_any _ _ (by first | exact hpc | exact pair_b16 HO.out.r _ _ | exact pushed_b16 HO.out)).mono ?_; rintro e w2 ⟨rfl, rfl⟩)
    | (go_at_call 70; refine (wideLo_any _ _ (by first | exact hpc | exact pair_b16 HO.out.r _ _ | exact pushed_b16 HO.out)).mono ?_; rintro e w2 ⟨rfl, rfl⟩))
  go_ret
  exact ⟨rfl, 0, rfl⟩
set_option maxHeartbeats 2000000 in
theorem cp_byte9 (g : Nat) (sv : Value) (c : Cp) (w : World) (h : CpAt w g sv c) (ho : c.Ok) :
    Calls Tryz.prog 53 #[.pointer (some ⟨g, 0, none⟩), .int .i64 9] w (ByteP (c.byteV 9) w) := by
  have hb := h.blk
  have HO := Lib.hid ho
  have H := Lib.hid h
  have c32 : w.cell? ⟨g, 32, none⟩ = some (.int .u8 c.code) := hb.cell 32
  have HB := Lib.hid hb
  have hk := ho.code
  have hpc := ho.r.pc
  have hv : c.byteV 9 = c.r.pair (c.code / 16 % 4) 0 / 256 := by simp [Cp.byteV]
  rw [hv]
  clear h hb ho hv
  go_enter Tryz.func53, Tryz.ntmps53
  go_wp2_with (first
    | (go_at_call 66; refine (cpu_p _ _ hk).mono ?_; rintro e w' ⟨rfl, rfl⟩)
    | (go_at_call 49; refine (cpu_y _ _ hk).mono ?_; rintro e w' ⟨rfl, rfl⟩)
    | (go_at_call 50; refine (cpu_z _ _ hk).mono ?_; rintro e w' ⟨rfl, rfl⟩)
    | (go_at_call 88; refine (cp_pushed g sv c _ H.out HO.out).mono ?_; rintro e w' ⟨rfl, hd⟩)
    | (go_at_call 44; refine (pair_any c.r 46 (c.tail sv) g _ _ _ HB.out HO.out.r).mono ?_; rintro e w' ⟨rfl, hd⟩)
    | (go_at_call 77; refine (byte_any c.r 46 (c.tail sv) g _ _ _ HB.out HO.out.r).mono ?_; rintro e w' ⟨rfl, hd⟩)
    | (go_at_call 76; refine (wideHi_any _ _ (by first | exact hpc | exact pair_b16 HO.out.r _ _ | exact pushed_b16 HO.out)).mono ?_; rintro e w2 ⟨rfl, rfl⟩)
    | (go_at_call 70; refine (wideLo_any _ _ (by first | exact hpc | exact pair_b16 HO.out.r _ _ | exact pushed_b16 HO.out)).mono ?_; rintro e w2 ⟨rfl, rfl⟩))
  go_ret
  exact ⟨rfl, hd⟩
set_option maxHeartbeats 2000000 in
theorem cp_byte10 (g : Nat) (sv : Value) (c : Cp) (w : World) (h : CpAt w g sv c) (ho : c.Ok) :
    Calls Tryz.prog 53 #[.pointer (some ⟨g, 0, none⟩), .int .i64 10] w (ByteP (c.byteV 10) w) := by
  have hb := h.blk
  have HO := Lib.hid ho
  have H := Lib.hid h
  have c32 : w.cell? ⟨g, 32, none⟩ = some (.int .u8 c.code) := hb.cell 32
  have HB := Lib.hid hb
  have hk := ho.code
  have hpc := ho.r.pc
  have hv : c.byteV 10 = c.r.pair (c.code / 16 % 4) 0 % 256 := by simp [Cp.byteV]
  rw [hv]
  clear h hb ho hv
  go_enter Tryz.func53, Tryz.ntmps53
  go_wp2_with (first
    | (go_at_call 66; refine (cpu_p _ _ hk).mono ?_; rintro e w' ⟨rfl, rfl⟩)
    | (go_at_call 49; refine (cpu_y _ _ hk).mono ?_; rintro e w' ⟨rfl, rfl⟩)
    | (go_at_call 50; refine (cpu_z _ _ hk).mono ?_; rintro e w' ⟨rfl, rfl⟩)
    | (go_at_call 88; refine (cp_pushed g sv c _ H.out HO.out).mono ?_; rintro e w' ⟨rfl, hd⟩)
    | (go_at_call 44; refine (pair_any c.r 46 (c.tail sv) g _ _ _ HB.out HO.out.r).mono ?_; rintro e w' ⟨rfl, hd⟩)
    | (go_at_call 77; refine (byte_any c.r 46 (c.tail sv) g _ _ _ HB.out HO.out.r).mono ?_; rintro e w' ⟨rfl, hd⟩)
    | (go_at_call 76; refine (wideHi_any _ _ (by first | exact hpc | exact pair_b16 HO.out.r _ _ | exact pushed_b16 HO.out)).mono ?_; rintro e w2 ⟨rfl, rfl⟩)
    | (go_at_call 70; refine (wideLo_any _ _ (by first | exact hpc | exact pair_b16 HO.out.r _ _ | exact pushed_b16 HO.out)).mono ?_; rintro e w2 ⟨rfl, rfl⟩))
  go_ret
  exact ⟨rfl, hd⟩
set_option maxHeartbeats 2000000 in
theorem cp_byte11 (g : Nat) (sv : Value) (c : Cp) (w : World) (h : CpAt w g sv c) (ho : c.Ok) :
    Calls Tryz.prog 53 #[.pointer (some ⟨g, 0, none⟩), .int .i64 11] w (ByteP (c.byteV 11) w) := by
  have hb := h.blk
  have HO := Lib.hid ho
  have H := Lib.hid h

  have HB := Lib.hid hb
  have hk := ho.code
  have hpc := ho.r.pc
  have hv : c.byteV 11 = c.pushed / 256 := by simp [Cp.byteV]
  rw [hv]
  clear h hb ho hv
  go_enter Tryz.func53, Tryz.ntmps53
  go_wp2_with (first
    | (go_at_call 66; refine (cpu_p _ _ hk).mono ?_; rintro e w' ⟨rfl, rfl⟩)
    | (go_at_call 49; refine (cpu_y _ _ hk).mono ?_; rintro e w' ⟨rfl, rfl⟩)
    | (go_at_call 50; refine (cpu_z _ _ hk).mono ?_; rintro e w' ⟨rfl, rfl⟩)
    | (go_at_call 88; refine (cp_pushed g sv c _ H.out HO.out).mono ?_; rintro e w' ⟨rfl, hd⟩)
    | (go_at_call 44; refine (pair_any c.r 46 (c.tail sv) g _ _ _ HB.out HO.out.r).mono ?_; rintro e w' ⟨rfl, hd⟩)
    | (go_at_call 77; refine (byte_any c.r 46 (c.tail sv) g _ _ _ HB.out HO.out.r).mono ?_; rintro e w' ⟨rfl, hd⟩)
    | (go_at_call 76; refine (wideHi_any _ _ (by first | exact hpc | exact pair_b16 HO.out.r _ _ | exact pushed_b16 HO.out)).mono ?_; rintro e w2 ⟨rfl, rfl⟩)
    | (go_at_call 70; refine (wideLo_any _ _ (by first | exact hpc | exact pair_b16 HO.out.r _ _ | exact pushed_b16 HO.out)).mono ?_; rintro e w2 ⟨rfl, rfl⟩))
  go_ret
  exact ⟨rfl, hd⟩
set_option maxHeartbeats 2000000 in
theorem cp_byte12 (g : Nat) (sv : Value) (c : Cp) (w : World) (h : CpAt w g sv c) (ho : c.Ok) :
    Calls Tryz.prog 53 #[.pointer (some ⟨g, 0, none⟩), .int .i64 12] w (ByteP (c.byteV 12) w) := by
  have hb := h.blk
  have HO := Lib.hid ho
  have H := Lib.hid h

  have HB := Lib.hid hb
  have hk := ho.code
  have hpc := ho.r.pc
  have hv : c.byteV 12 = c.pushed % 256 := by simp [Cp.byteV]
  rw [hv]
  clear h hb ho hv
  go_enter Tryz.func53, Tryz.ntmps53
  go_wp2_with (first
    | (go_at_call 66; refine (cpu_p _ _ hk).mono ?_; rintro e w' ⟨rfl, rfl⟩)
    | (go_at_call 49; refine (cpu_y _ _ hk).mono ?_; rintro e w' ⟨rfl, rfl⟩)
    | (go_at_call 50; refine (cpu_z _ _ hk).mono ?_; rintro e w' ⟨rfl, rfl⟩)
    | (go_at_call 88; refine (cp_pushed g sv c _ H.out HO.out).mono ?_; rintro e w' ⟨rfl, hd⟩)
    | (go_at_call 44; refine (pair_any c.r 46 (c.tail sv) g _ _ _ HB.out HO.out.r).mono ?_; rintro e w' ⟨rfl, hd⟩)
    | (go_at_call 77; refine (byte_any c.r 46 (c.tail sv) g _ _ _ HB.out HO.out.r).mono ?_; rintro e w' ⟨rfl, hd⟩)
    | (go_at_call 76; refine (wideHi_any _ _ (by first | exact hpc | exact pair_b16 HO.out.r _ _ | exact pushed_b16 HO.out)).mono ?_; rintro e w2 ⟨rfl, rfl⟩)
    | (go_at_call 70; refine (wideLo_any _ _ (by first | exact hpc | exact pair_b16 HO.out.r _ _ | exact pushed_b16 HO.out)).mono ?_; rintro e w2 ⟨rfl, rfl⟩))
  go_ret
  exact ⟨rfl, hd⟩
set_option maxHeartbeats 2000000 in
theorem cp_byte13 (g : Nat) (sv : Value) (c : Cp) (w : World) (h : CpAt w g sv c) (ho : c.Ok) :
    Calls Tryz.prog 53 #[.pointer (some ⟨g, 0, none⟩), .int .i64 13] w (ByteP (c.byteV 13) w) := by
  have hb := h.blk
  have HO := Lib.hid ho
  have H := Lib.hid h
  have c32 : w.cell? ⟨g, 32, none⟩ = some (.int .u8 c.code) := hb.cell 32
  have HB := Lib.hid hb
  have hk := ho.code
  have hpc := ho.r.pc
  have hv : c.byteV 13 = c.r.byte (c.code / 8 % 8) 0 := by simp [Cp.byteV]
  rw [hv]
  clear h hb ho hv
  go_enter Tryz.func53, Tryz.ntmps53
  go_wp2_with (first
    | (go_at_call 66; refine (cpu_p _ _ hk).mono ?_; rintro e w' ⟨rfl, rfl⟩)
    | (go_at_call 49; refine (cpu_y _ _ hk).mono ?_; rintro e w' ⟨rfl, rfl⟩)
    | (go_at_call 50; refine (cpu_z _ _ hk).mono ?_; rintro e w' ⟨rfl, rfl⟩)
    | (go_at_call 88; refine (cp_pushed g sv c _ H.out HO.out).mono ?_; rintro e w' ⟨rfl, hd⟩)
    | (go_at_call 44; refine (pair_any c.r 46 (c.tail sv) g _ _ _ HB.out HO.out.r).mono ?_; rintro e w' ⟨rfl, hd⟩)
    | (go_at_call 77; refine (byte_any c.r 46 (c.tail sv) g _ _ _ HB.out HO.out.r).mono ?_; rintro e w' ⟨rfl, hd⟩)
    | (go_at_call 76; refine (wideHi_any _ _ (by first | exact hpc | exact pair_b16 HO.out.r _ _ | exact pushed_b16 HO.out)).mono ?_; rintro e w2 ⟨rfl, rfl⟩)
    | (go_at_call 70; refine (wideLo_any _ _ (by first | exact hpc | exact pair_b16 HO.out.r _ _ | exact pushed_b16 HO.out)).mono ?_; rintro e w2 ⟨rfl, rfl⟩))
  go_ret
  exact ⟨rfl, 0, hd.symm⟩
theorem cp_byte (g : Nat) (sv : Value) (c : Cp) (k : Int) (w : World) (h : CpAt w g sv c) (ho : c.Ok) (hk : k = 0 ∨ k = 1 ∨ k = 2 ∨ k = 3 ∨ k = 4 ∨ k = 6 ∨ k = 7 ∨ k = 8 ∨ k = 9 ∨ k = 10 ∨ k = 11 ∨ k = 12 ∨ k = 13) :
    Calls Tryz.prog 53 #[.pointer (some ⟨g, 0, none⟩), .int .i64 k] w (ByteP (c.byteV k) w) := by
  rcases hk with rfl | rfl | rfl | rfl | rfl | rfl | rfl | rfl | rfl | rfl | rfl | rfl | rfl
  · exact cp_byte0 g sv c w h ho
  · exact cp_byte1 g sv c w h ho
  · exact cp_byte2 g sv c w h ho
  · exact cp_byte3 g sv c w h ho
  · exact cp_byte4 g sv c w h ho
  · exact cp_byte6 g sv c w h ho
  · exact cp_byte7 g sv c w h ho
  · exact cp_byte8 g sv c w h ho
  · exact cp_byte9 g sv c w h ho
  · exact cp_byte10 g sv c w h ho
  · exact cp_byte11 g sv c w h ho
  · exact cp_byte12 g sv c w h ho
  · exact cp_byte13 g sv c w h ho
end Go.Proofs.YtbhpmnhlmeglcaaGreat
