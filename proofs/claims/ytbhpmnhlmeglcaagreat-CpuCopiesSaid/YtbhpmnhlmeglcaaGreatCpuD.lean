/- cpu: conditions; a step's cycle begins. -/
import Derived.Test.YtbhpmnhlmeglcaaGreatCpuC
namespace Go.Proofs.YtbhpmnhlmeglcaaGreat
set_option linter.unusedSimpArgs false
set_option linter.unusedVariables false
open Go.RowKit
/-- is a bit of F set? -/
def hasV (f m : Int) : Bool := bits .and .u8 f m != 0
theorem has_any (f m : Int) (w : World) : Calls Tryz.prog 51 #[.int .u8 f, .int .u8 m] w fun e w' => e = .returned (.bool (hasV f m)) ∧ w' = w := by
  unfold hasV
  go_enter Tryz.func51, Tryz.ntmps51
  go_wp2
  go_ret
  exact ⟨rfl, rfl⟩
def condV (f k : Int) : Bool := if k = 0 then !hasV f 64 else if k = 1 then hasV f 64 else if k = 2 then !hasV f 1 else if k = 3 then hasV f 1 else if k = 4 then !hasV f 4 else if k = 5 then hasV f 4 else if k = 6 then !hasV f 128 else if k = 7 then hasV f 128 else false
set_option maxHeartbeats 2000000 in
theorem cond_any (f k : Int) (w : World) (hk : 0 ≤ k ∧ k ≤ 7) : Calls Tryz.prog 48 #[.int .u8 f, .int .i64 k] w fun e w' => e = .returned (.bool (condV f k)) ∧ w' = w := by
  have hk2 : k = 0 ∨ k = 1 ∨ k = 2 ∨ k = 3 ∨ k = 4 ∨ k = 5 ∨ k = 6 ∨ k = 7 := by omega
  obtain ⟨R, hR⟩ : ∃ R, R = condV f k := ⟨_, rfl⟩
  rw [← hR]
  unfold condV at hR
  have HH := Lib.hid (fun m w => has_any f m w)
  rcases hk2 with rfl | rfl | rfl | rfl | rfl | rfl | rfl | rfl
  all_goals
    simp at hR
    clear hk
    go_enter Tryz.func48, Tryz.ntmps48
    go_wp2_with (first
      | (go_at_call 51; refine (HH.out _ _).mono ?_; rintro e w' ⟨rfl, rfl⟩))
    go_ret
    exact ⟨by rw [hR]; simp, rfl⟩
theorem hd_blk {w w' : World} {g : Nat} {t : TypeId} {cs : List Value} (hd : Drew w w') (h : Blk w g t cs) : Blk w' g t cs := by
  obtain ⟨m, rfl⟩ := hd
  exact h.drewN m
def Cp.metV (c : Cp) (k : Int) : Bool :=
  if k = 0 then condV c.r.f (c.code / 8 % 8) else if k = 1 then condV c.r.f (c.code / 8 % 8 - 4) else if k = 2 then c.r.b != 0 else
  if c.code % 8 = 0 then c.r.pair 0 0 != 0 else if c.code % 8 = 1 then c.r.pair 0 0 != 0 && !hasV c.r.f 64 else c.r.b != 0
def MetP (v : Bool) (w : World) (e : Ending) (w' : World) : Prop := e = .returned (.bool v) ∧ Drew w w'
set_option maxHeartbeats 2000000 in
theorem cp_met0 (g : Nat) (sv : Value) (c : Cp) (w : World) (h : CpAt w g sv c) (ho : c.Ok) :
    Calls Tryz.prog 41 #[.pointer (some ⟨g, 0, none⟩), .int .i64 0] w (MetP (c.metV 0) w) := by
  have hb := h.blk
  have HO := Lib.hid ho
  have c1 : w.cell? ⟨g, 1, none⟩ = some (.int .u8 c.r.f) := hb.cell 1
  have c32 : w.cell? ⟨g, 32, none⟩ = some (.int .u8 c.code) := hb.cell 32
  have HB := Lib.hid hb
  have hk := ho.code
  have hv : c.metV 0 = condV c.r.f (c.code / 8 % 8) := by simp [Cp.metV]
  have hy : 0 ≤ c.code / 8 % 8 ∧ c.code / 8 % 8 ≤ 7 := by omega
  rw [hv]
  clear hv
  clear h hb ho
  go_enter Tryz.func41, Tryz.ntmps41
  go_wp2_with fail
  go_quiet (first
      | (go_at_call 49; exact Calls.quiet_of_same (same_swap (cpu_y _ _ hk)))
      | (go_at_call 48; exact Calls.quiet_of_same (cond_any _ _ _ hy)))
  go_wp2_with fail
  go_ret
  exact ⟨rfl, _, rfl⟩
set_option maxHeartbeats 2000000 in
theorem cp_met1 (g : Nat) (sv : Value) (c : Cp) (w : World) (h : CpAt w g sv c) (ho : c.Ok) (h4 : 4 ≤ c.code / 8 % 8) :
    Calls Tryz.prog 41 #[.pointer (some ⟨g, 0, none⟩), .int .i64 1] w (MetP (c.metV 1) w) := by
  have hb := h.blk
  have HO := Lib.hid ho
  have c1 : w.cell? ⟨g, 1, none⟩ = some (.int .u8 c.r.f) := hb.cell 1
  have c32 : w.cell? ⟨g, 32, none⟩ = some (.int .u8 c.code) := hb.cell 32
  have HB := Lib.hid hb
  have hk := ho.code
  have hv : c.metV 1 = condV c.r.f (c.code / 8 % 8 - 4) := by simp [Cp.metV]
  have hy : 0 ≤ c.code / 8 % 8 - 4 ∧ c.code / 8 % 8 - 4 ≤ 7 := by omega
  have w1 : IntKind.i64.wrap (c.code / 8 % 8 - 4) = c.code / 8 % 8 - 4 := by rw [IntKind.wrap_i64]; omega
  rw [hv]
  clear hv
  clear h hb ho
  go_enter Tryz.func41, Tryz.ntmps41
  go_wp2_with fail
  go_quiet (first
      | (go_at_call 49; exact Calls.quiet_of_same (same_swap (cpu_y _ _ hk)))
      | (go_at_call 48; exact Calls.quiet_of_same (cond_any _ _ _ hy)))
  go_wp2_with fail
  go_ret
  exact ⟨rfl, _, rfl⟩
set_option maxHeartbeats 2000000 in
theorem cp_met2 (g : Nat) (sv : Value) (c : Cp) (w : World) (h : CpAt w g sv c) (ho : c.Ok) :
    Calls Tryz.prog 41 #[.pointer (some ⟨g, 0, none⟩), .int .i64 2] w (MetP (c.metV 2) w) := by
  have hb := h.blk
  have HO := Lib.hid ho
  have c2 : w.cell? ⟨g, 2, none⟩ = some (.int .u8 c.r.b) := hb.cell 2
  have HB := Lib.hid hb
  have hk := ho.code
  have hv : c.metV 2 = (c.r.b != 0) := by simp [Cp.metV]
  rw [hv]
  clear hv
  clear h hb ho
  go_enter Tryz.func41, Tryz.ntmps41
  go_wp2
  go_ret
  exact ⟨rfl, 0, rfl⟩
set_option maxHeartbeats 2000000 in
theorem cp_met30 (g : Nat) (sv : Value) (c : Cp) (w : World) (h : CpAt w g sv c) (ho : c.Ok) (hz : c.code % 8 = 0) :
    Calls Tryz.prog 41 #[.pointer (some ⟨g, 0, none⟩), .int .i64 3] w (MetP (c.metV 3) w) := by
  have hb := h.blk
  have HO := Lib.hid ho
  have c32 : w.cell? ⟨g, 32, none⟩ = some (.int .u8 c.code) := hb.cell 32
  have HB := Lib.hid hb
  have hk := ho.code
  have hv : c.metV 3 = (c.r.pair 0 0 != 0) := by simp [Cp.metV, hz]
  have hz2 : (c.code % 8 == 0) = true := by rw [hz]; rfl
  rw [hv]
  clear hv hz
  clear h hb ho
  go_enter Tryz.func41, Tryz.ntmps41
  go_wp2_with (first
    | (go_at_call 50; refine (cpu_z _ _ hk).mono ?_; rintro e w' ⟨rfl, rfl⟩)
    | (go_at_call 51; refine (has_any _ _ _).mono ?_; rintro e w2 ⟨rfl, rfl⟩)
    | (go_at_call 44; refine (pair_any c.r 46 (c.tail sv) g 0 0 _ HB.out HO.out.r).mono ?_; rintro e w9 ⟨rfl, hd⟩; have hb9 : Blk w9 g 46 (c.cells sv) := (hd_blk hd HB.out); have c19 : w9.cell? ⟨g, 1, none⟩ = some (.int .u8 c.r.f) := hb9.cell 1))
  all_goals
    go_ret
    exact ⟨rfl, hd⟩
set_option maxHeartbeats 2000000 in
theorem cp_met31 (g : Nat) (sv : Value) (c : Cp) (w : World) (h : CpAt w g sv c) (ho : c.Ok) (hz : c.code % 8 = 1) :
    Calls Tryz.prog 41 #[.pointer (some ⟨g, 0, none⟩), .int .i64 3] w (MetP (c.metV 3) w) := by
  have hb := h.blk
  have HO := Lib.hid ho
  have c32 : w.cell? ⟨g, 32, none⟩ = some (.int .u8 c.code) := hb.cell 32
  have HB := Lib.hid hb
  have hk := ho.code
  have hv : c.metV 3 = (c.r.pair 0 0 != 0 && !hasV c.r.f 64) := by simp [Cp.metV, hz]
  have hz2 : (c.code % 8 == 1) = true := by rw [hz]; rfl
  have hz3 : (c.code % 8 == 0) = false := by rw [hz]; rfl
  obtain ⟨V, hV⟩ : ∃ V, V = (c.r.pair 0 0 != 0 && !hasV c.r.f 64) := ⟨_, rfl⟩
  have HVV := Lib.hid hV
  rw [hv, ← hV]
  clear hv hz hV
  clear h hb ho
  go_enter Tryz.func41, Tryz.ntmps41
  go_wp2_with (first
    | (go_at_call 50; refine (cpu_z _ _ hk).mono ?_; rintro e w' ⟨rfl, rfl⟩)
    | (go_at_call 51; refine (has_any _ _ _).mono ?_; rintro e w2 ⟨rfl, rfl⟩)
    | (go_at_call 44; refine (pair_any c.r 46 (c.tail sv) g 0 0 _ HB.out HO.out.r).mono ?_; rintro e w9 ⟨rfl, hd⟩; have hb9 : Blk w9 g 46 (c.cells sv) := (hd_blk hd HB.out); have c19 : w9.cell? ⟨g, 1, none⟩ = some (.int .u8 c.r.f) := hb9.cell 1))
  all_goals
    go_ret
    exact ⟨by rw [HVV.out]; simp_all, hd⟩
set_option maxHeartbeats 2000000 in
theorem cp_met32 (g : Nat) (sv : Value) (c : Cp) (w : World) (h : CpAt w g sv c) (ho : c.Ok) (hz : c.code % 8 ≠ 0 ∧ c.code % 8 ≠ 1) :
    Calls Tryz.prog 41 #[.pointer (some ⟨g, 0, none⟩), .int .i64 3] w (MetP (c.metV 3) w) := by
  have hb := h.blk
  have HO := Lib.hid ho
  have c32 : w.cell? ⟨g, 32, none⟩ = some (.int .u8 c.code) := hb.cell 32
  have c2 : w.cell? ⟨g, 2, none⟩ = some (.int .u8 c.r.b) := hb.cell 2
  have HB := Lib.hid hb
  have hk := ho.code
  have hv : c.metV 3 = (c.r.b != 0) := by simp [Cp.metV, hz.1, hz.2]
  have hz2 : (c.code % 8 == 1) = false := by simp [hz.2]
  have hz3 : (c.code % 8 == 0) = false := by simp [hz.1]
  rw [hv]
  clear hv hz
  clear h hb ho
  go_enter Tryz.func41, Tryz.ntmps41
  go_wp2_with (first
    | (go_at_call 50; refine (cpu_z _ _ hk).mono ?_; rintro e w' ⟨rfl, rfl⟩)
    | (go_at_call 51; refine (has_any _ _ _).mono ?_; rintro e w2 ⟨rfl, rfl⟩)
    | (go_at_call 44; refine (pair_any c.r 46 (c.tail sv) g 0 0 _ HB.out HO.out.r).mono ?_; rintro e w9 ⟨rfl, hd⟩; have hb9 : Blk w9 g 46 (c.cells sv) := (hd_blk hd HB.out); have c19 : w9.cell? ⟨g, 1, none⟩ = some (.int .u8 c.r.f) := hb9.cell 1))
  go_ret
  exact ⟨rfl, 0, rfl⟩
theorem cp_met (g : Nat) (sv : Value) (c : Cp) (k : Int) (w : World) (h : CpAt w g sv c) (ho : c.Ok) (hk : k = 0 ∨ (k = 1 ∧ 4 ≤ c.code / 8 % 8) ∨ k = 2 ∨ k = 3) :
    Calls Tryz.prog 41 #[.pointer (some ⟨g, 0, none⟩), .int .i64 k] w (MetP (c.metV k) w) := by
  rcases hk with rfl | ⟨rfl, h4⟩ | rfl | rfl
  · exact cp_met0 g sv c w h ho
  · exact cp_met1 g sv c w h ho h4
  · exact cp_met2 g sv c w h ho
  · by_cases h0 : c.code % 8 = 0
    · exact cp_met30 g sv c w h ho h0
    · by_cases h1 : c.code % 8 = 1
      · exact cp_met31 g sv c w h ho h1
      · exact cp_met32 g sv c w h ho ⟨h0, h1⟩
end Go.Proofs.YtbhpmnhlmeglcaaGreat
