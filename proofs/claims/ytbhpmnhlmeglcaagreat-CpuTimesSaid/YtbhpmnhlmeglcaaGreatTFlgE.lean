/- alu: daa. -/
import Derived.Test.YtbhpmnhlmeglcaaGreatTFlgD
import Derived.Deep.RegionWith
import Derived.Sort.AtCall
import Derived.Deep.QuietTactic
namespace Go.Proofs.YtbhpmnhlmeglcaaGreat
set_option linter.unusedSimpArgs false
set_option linter.unusedVariables false
open Go.RowKit
def daaDB (b16 b1 k9 k153 : Bool) : Int := (if b16 || k9 then 6 else 0) + (if b1 || k153 then 96 else 0)
def daaAB (a : Int) (b2 : Bool) (D : Int) : Int := if b2 then (a - D) % 256 else (a + D) % 256
def daaHB (b2 b16 k9 k6 : Bool) : Bool := if b2 then b16 && k6 else k9
def daaFB (a : Int) (b2 b16 b1 k9 k153 k6 : Bool) : Int := set3V (ofPV (daaAB a b2 (daaDB b16 b1 k9 k153))) 2 16 1 b2 (daaHB b2 b16 k9 k6) (b1 || k153)
def daaA (a f : Int) : Int := daaAB a (hasV f 2) (daaDB (hasV f 16) (hasV f 1) (decide (9 < a % 16)) (decide (153 < a)))
def daaF (a f : Int) : Int := daaFB a (hasV f 2) (hasV f 16) (hasV f 1) (decide (9 < a % 16)) (decide (153 < a)) (decide (a % 16 < 6))
theorem daa_b8 (a f : Int) : B8 (daaA a f) := by unfold daaA daaAB; split <;> exact ⟨by omega, by omega⟩
theorem daa_end {x y p q : Int} {W : World} {n : Nat} {w : World} (h1 : x = p) (h2 : y = q) (h : Below n w W) : Ending.returned (.tuple #[.int .u8 x, .int .u8 y]) = Ending.returned (.tuple #[.int .u8 p, .int .u8 q]) ∧ Below n w W := by subst h1 h2; exact ⟨rfl, h⟩
theorem daa_cong {x y : Int} {b c d : Bool} (h : x = y) : set3V (ofPV x) 2 16 1 b c d = set3V (ofPV y) 2 16 1 b c d := by rw [h]
set_option maxHeartbeats 40000000 in
theorem daa_any (a f : Int) (w : World) (ha : B8 a) : Calls Tryz.prog 139 #[.int .u8 a, .int .u8 f] w (Two (daaA a f) (daaF a f) w) := by
  have H2 := Lib.hid (fun w => has_same f 2 w)
  have H16 := Lib.hid (fun w => has_same f 16 w)
  have H1 := Lib.hid (fun w => has_same f 1 w)
  unfold daaA daaF
  obtain ⟨k9, hk9⟩ : ∃ k, k = decide (9 < a % 16) := ⟨_, rfl⟩
  obtain ⟨k153, hk153⟩ : ∃ k, k = decide (153 < a) := ⟨_, rfl⟩
  obtain ⟨k6, hk6⟩ : ∃ k, k = decide (a % 16 < 6) := ⟨_, rfl⟩
  rw [← hk9, ← hk153, ← hk6]
  generalize hasV f 2 = b2 at H2 ⊢
  generalize hasV f 16 = b16 at H16 ⊢
  generalize hasV f 1 = b1 at H1 ⊢
  obtain ⟨R1, hR1⟩ : ∃ R : Int, R = daaAB a b2 (daaDB b16 b1 k9 k153) := ⟨_, rfl⟩
  obtain ⟨R2, hR2⟩ : ∃ R : Int, R = daaFB a b2 b16 b1 k9 k153 k6 := ⟨_, rfl⟩
  rw [← hR1, ← hR2]
  have HR1 := Lib.hid hR1; have HR2 := Lib.hid hR2
  clear hR1 hR2
  obtain ⟨a0, a1⟩ := ha
  cases b2
  all_goals cases b16
  all_goals cases b1
  all_goals cases k9
  all_goals cases k153
  all_goals cases k6
  all_goals
    have h9 := hk9.symm; have h153 := hk153.symm; have h6 := hk6.symm
    have d9 := Lib.hid hk9.symm; have d153 := Lib.hid hk153.symm; have d6 := Lib.hid hk6.symm
    clear hk9 hk153 hk6
    simp only [decide_eq_true_iff, decide_eq_false_iff_not] at h9 h153 h6
    first
      | (exfalso; omega)
      | (go_enter Tryz.func139, Tryz.ntmps139
         go_wp2_with (first
           | (go_at_call_of 51 (Value.int .u8 2); refine (H2.out _).mono ?_; rintro e w' ⟨rfl, rfl⟩)
           | (go_at_call_of 51 (Value.int .u8 16); refine (H16.out _).mono ?_; rintro e w' ⟨rfl, rfl⟩)
           | (go_at_call_of 51 (Value.int .u8 1); refine (H1.out _).mono ?_; rintro e w' ⟨rfl, rfl⟩)
           | (go_at_call 79; refine (ofP_any _ _ ?_).mono ?_; exact ⟨by omega, by omega⟩; rintro e w' ⟨rfl, rfl⟩)
           | (go_at_call 152; refine (set3_any _ _ _ _ _ _ _ _ _ (Blk.new w 138 [_, _, _, _, _, _])).mono ?_; rintro e w2 ⟨rfl, hb2⟩; have HB2 := Lib.hid hb2; clear hb2))
         go_ret2
         refine daa_end ?_ ?_ (((Below.refl _ _).alloc (Nat.le_refl _) _).trans (HB2.out.mono (by simp)))
         · rw [HR1.out]; simp only [daaAB, daaDB, Bool.or_true, Bool.or_false, Bool.true_or, Bool.false_or, if_true, if_false, Bool.false_eq_true]; omega
         · rw [HR2.out]; unfold daaFB; rw [← HR1.out]; simp only [d9.out, d153.out, d6.out, daaHB, Bool.or_true, Bool.or_false, Bool.true_or, Bool.false_or, Bool.and_true, Bool.and_false, Bool.false_and, Bool.true_and, if_true, if_false, Bool.false_eq_true]
           refine daa_cong ?_
           rw [HR1.out]; simp only [daaAB, daaDB, Bool.or_true, Bool.or_false, Bool.true_or, Bool.false_or, if_true, if_false, Bool.false_eq_true]; omega)
end Go.Proofs.YtbhpmnhlmeglcaaGreat
