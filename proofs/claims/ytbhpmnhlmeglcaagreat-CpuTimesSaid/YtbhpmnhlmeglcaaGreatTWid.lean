/- wide: sums of words, and what they tell. -/
import Derived.Test.YtbhpmnhlmeglcaaGreatTFlgC
import Derived.Laws.StructEq
import Derived.Deep.QuietTactic
import Derived.Lib.QuietBelow
import Derived.Deep.DeepCutAuto
import Derived.Deep.RegionWith
import Derived.Sort.AtCall
namespace Go.Proofs.YtbhpmnhlmeglcaaGreat
set_option linter.unusedSimpArgs false
set_option linter.unusedVariables false
open Go.RowKit Go.Sort
def overW (n : Int) : Bool := decide (n < -32768) || decide (32767 < n)
theorem wover_any (n : Int) (w : World) : Calls Tryz.prog 126 #[.int .i64 n] w fun e w' => e = .returned (.bool (overW n)) ∧ w = w' := by
  unfold overW
  by_cases h1 : n < -32768
  · have e1 : decide (n < -32768) = true := by simpa using h1
    rw [e1]
    go_enter Tryz.func126, Tryz.ntmps126
    go_wp2
    go_ret
    exact ⟨rfl, rfl⟩
  · have e1 : decide (n < -32768) = false := by simpa using h1
    rw [e1]
    cases e2 : decide (32767 < n)
    all_goals
      go_enter Tryz.func126, Tryz.ntmps126
      go_wp2
      go_ret
      first | exact ⟨rfl, rfl⟩ | exact ⟨by simp_all, rfl⟩
/-- what is told, as bits -/
def toldV (h o c : Bool) : Int := withV (withV (withV 0 16 h) 4 o) 1 c
set_option maxRecDepth 100000 in
set_option maxHeartbeats 4000000 in
theorem flags_any (h o c : Bool) (w : World) : Calls Tryz.prog 109 #[.agg #[.bool h, .bool o, .bool c]] w fun e w' => e = .returned (.int .u8 (toldV h o c)) ∧ Below w.heap.size w w' := by
  by_cases hz : h = false ∧ o = false ∧ c = false
  · obtain ⟨rfl, rfl, rfl⟩ := hz
    go_enter Tryz.func109, Tryz.ntmps109
    go_wp2_with fail
    go_ret
    exact ⟨rfl, (Below.refl _ _).alloc (Nat.le_refl _) _⟩
  · have HW1 := Lib.hid (fun w => with_any 0 16 h w)
    have HW2 := Lib.hid (fun w => with_any (withV 0 16 h) 4 o w)
    have HW3 := Lib.hid (fun w => with_any (withV (withV 0 16 h) 4 o) 1 c w)
    unfold toldV
    generalize withV (withV (withV 0 16 h) 4 o) 1 c = x3 at HW3 ⊢
    generalize withV (withV 0 16 h) 4 o = x2 at HW2 HW3
    generalize withV 0 16 h = x1 at HW1 HW2
    cases h
    all_goals cases o
    all_goals cases c
    all_goals
      first
        | (exfalso; exact hz ⟨rfl, rfl, rfl⟩)
        | (clear hz
           go_enter Tryz.func109, Tryz.ntmps109
           go_wp2_with (first
             | (go_at_call_of 122 (Value.int .u8 0); refine (HW1.out _).mono ?_; rintro e w' ⟨rfl, rfl⟩)
             | (go_at_call_of 122 (Value.int .u8 x1); refine (HW2.out _).mono ?_; rintro e w' ⟨rfl, rfl⟩)
             | (go_at_call_of 122 (Value.int .u8 x2); refine (HW3.out _).mono ?_; rintro e w' ⟨rfl, rfl⟩))
           go_ret
           exact ⟨rfl, (Below.refl _ _).alloc (Nat.le_refl _) _⟩)
def wrapW (n : Int) : Int := IntKind.i64.wrap n
def halfW (a b c : Int) : Bool := decide (4095 < wrap64 (wrap64 (wrap64 (bits .and .u16 a 4095) + wrap64 (bits .and .u16 b 4095)) + c))
def sgnW (a b c : Int) : Bool := overW (wrap64 (wrap64 (wrap64 (IntKind.i16.wrap a) + wrap64 (IntKind.i16.wrap b)) + c))
set_option maxRecDepth 100000 in
set_option maxHeartbeats 4000000 in
theorem wplus_any (a b c : Int) (w : World) (ha : B16 a) (hb : B16 b) (hc : c = 0 ∨ c = 1) :
    Calls Tryz.prog 108 #[.int .u16 a, .int .u16 b, .int .i64 c] w fun e w' => e = .returned (.tuple #[.int .u16 ((a + b + c) % 65536), .agg #[.bool (halfW a b c), .bool (sgnW a b c), .bool (decide (65535 < a + b + c))]]) ∧ Below w.heap.size w w' := by
  unfold halfW sgnW
  obtain ⟨a0, a1⟩ := ha; obtain ⟨b0, b1⟩ := hb
  have c0 : 0 ≤ c ∧ c ≤ 1 := by omega
  obtain ⟨c0, c1⟩ := c0
  clear hc
  go_enter Tryz.func108, Tryz.ntmps108
  go_wp2_with (first
    | (go_at_call 126; refine (wover_any _ _).mono ?_; rintro e w' ⟨rfl, rfl⟩))
  refine bodyPost_ret (v := .tuple #[.int .u16 ((a + b + c) % 65536), .agg #[.bool (decide (4095 < wrap64 (wrap64 (wrap64 (bits .and .u16 a 4095) + wrap64 (bits .and .u16 b 4095)) + c))), .bool (overW (wrap64 (wrap64 (wrap64 (IntKind.i16.wrap a) + wrap64 (IntKind.i16.wrap b)) + c))), .bool (decide (65535 < a + b + c))]]) ?_ rfl ⟨rfl, ?_⟩
  · simp [results, Tryz.results108, go_sem, IntKind.wrap_u16]
  · first
      | exact (Below.refl _ _).alloc (Nat.le_refl _) _
      | (repeat (with_reducible refine Below.setCell ?_ (by simp) _)
         exact (Below.refl _ _).alloc (Nat.le_refl _) _)
end Go.Proofs.YtbhpmnhlmeglcaaGreat
