/- alu: bytes and F as numbers. -/
import Derived.Test.YtbhpmnhlmeglcaaGreatTFlg
namespace Go.Proofs.YtbhpmnhlmeglcaaGreat
set_option linter.unusedSimpArgs false
set_option linter.unusedVariables false
open Go.RowKit
/-- F with three bits -/
def set3V (f a b c : Int) (x y z : Bool) : Int := withV (withV (withV f a x) b y) c z
set_option maxRecDepth 100000 in
set_option maxHeartbeats 4000000 in
theorem set3_any (g : Nat) (f a b c : Int) (x y z : Bool) (w : World) (hb : Blk w g 138 [.int .u8 a, .bool x, .int .u8 b, .bool y, .int .u8 c, .bool z]) :
    Calls Tryz.prog 152 #[.int .u8 f, .slice (some ⟨g, 0, none⟩) 3 3] w fun e w' => e = .returned (.int .u8 (set3V f a b c x y z)) ∧ Below w.heap.size w w' := by
  have c0 := hb.cell 0; have c1 := hb.cell 1; have c2 := hb.cell 2; have c3 := hb.cell 3; have c4 := hb.cell 4; have c5 := hb.cell 5
  have hg := hb.lt
  clear hb
  unfold set3V
  go_enter Tryz.func152, Tryz.ntmps152
  go_wp2
  refine wp_loop_rounds 4 ?_
  iterate 4
    rw [rounds_succ]
    go_wp2_with (first
      | (go_at_call 122; refine (with_any _ _ _ _).mono ?_; rintro e w' ⟨rfl, rfl⟩))
  go_ret
  exact ⟨rfl, (((Below.refl _ _).alloc (Nat.le_refl _) _).alloc (by simp) _).alloc (by simp; omega) _⟩
def set2V (f a b : Int) (x y : Bool) : Int := withV (withV f a x) b y
set_option maxRecDepth 100000 in
set_option maxHeartbeats 4000000 in
theorem set2_any (g : Nat) (f a b : Int) (x y : Bool) (w : World) (hb : Blk w g 138 [.int .u8 a, .bool x, .int .u8 b, .bool y]) :
    Calls Tryz.prog 152 #[.int .u8 f, .slice (some ⟨g, 0, none⟩) 2 2] w fun e w' => e = .returned (.int .u8 (set2V f a b x y)) ∧ Below w.heap.size w w' := by
  have c0 := hb.cell 0; have c1 := hb.cell 1; have c2 := hb.cell 2; have c3 := hb.cell 3
  have hg := hb.lt
  clear hb
  unfold set2V
  go_enter Tryz.func152, Tryz.ntmps152
  go_wp2
  refine wp_loop_rounds 3 ?_
  iterate 3
    rw [rounds_succ]
    go_wp2_with (first
      | (go_at_call 122; refine (with_any _ _ _ _).mono ?_; rintro e w' ⟨rfl, rfl⟩))
  go_ret
  exact ⟨rfl, ((Below.refl _ _).alloc (Nat.le_refl _) _).alloc (by simp) _⟩
def ofV (b : Int) : Int := if b = 0 then bits .or .u8 (bits .and .u8 b 168) 64 else bits .and .u8 b 168
theorem of_any (b : Int) (w : World) : Calls Tryz.prog 123 #[.int .u8 b] w fun e w' => e = .returned (.int .u8 (ofV b)) ∧ w = w' := by
  unfold ofV
  by_cases h : b = 0
  · rw [if_pos h]
    have h2 : (b == 0) = true := by rw [h]; rfl
    have H := Lib.hid h
    clear h
    go_enter Tryz.func123, Tryz.ntmps123
    go_wp2
    go_ret
    exact ⟨rfl, rfl⟩
  · rw [if_neg h]
    have h2 : (b == 0) = false := by simpa using h
    have H := Lib.hid h
    clear h
    go_enter Tryz.func123, Tryz.ntmps123
    go_wp2
    go_ret
    exact ⟨rfl, rfl⟩
def oneV (c : Bool) : Int := if c then 1 else 0
theorem one_any (c : Bool) (w : World) : Calls Tryz.prog 151 #[.bool c] w fun e w' => e = .returned (.int .i64 (oneV c)) ∧ w = w' := by
  unfold oneV
  cases c
  all_goals
    go_enter Tryz.func151, Tryz.ntmps151
    go_wp2
    go_ret
    exact ⟨rfl, rfl⟩
def overV (n : Int) : Bool := decide (n < -128) || decide (127 < n)
theorem over_any (n : Int) (w : World) : Calls Tryz.prog 153 #[.int .i64 n] w fun e w' => e = .returned (.bool (overV n)) ∧ w = w' := by
  unfold overV
  by_cases h1 : n < -128
  · have e1 : decide (n < -128) = true := by simpa using h1
    rw [e1]
    go_enter Tryz.func153, Tryz.ntmps153
    go_wp2
    go_ret
    exact ⟨rfl, rfl⟩
  · have e1 : decide (n < -128) = false := by simpa using h1
    rw [e1]
    cases e2 : decide (127 < n)
    all_goals
      go_enter Tryz.func153, Tryz.ntmps153
      go_wp2
      go_ret
      exact ⟨rfl, rfl⟩
end Go.Proofs.YtbhpmnhlmeglcaaGreat
