/- alu, turn, wide: the rest, as numbers. -/
import Derived.Test.YtbhpmnhlmeglcaaGreatTFlgC
namespace Go.Proofs.YtbhpmnhlmeglcaaGreat
set_option linter.unusedSimpArgs false
set_option linter.unusedVariables false
open Go.RowKit
def cplA (a : Int) : Int := bits .xor .u8 IntKind.u8.max a
def cplF (a f : Int) : Int := bits .or .u8 (bits .or .u8 (bits .or .u8 (bits .andNot .u8 f 40) (bits .and .u8 (cplA a) 40)) 16) 2
theorem cpl_any (a f : Int) (w : World) (ha : B8 a) : Calls Tryz.prog 140 #[.int .u8 a, .int .u8 f] w (Two (cplA a) (cplF a f) w) := by
  obtain ⟨a0, a1⟩ := ha
  unfold cplF cplA
  go_enter Tryz.func140, Tryz.ntmps140
  go_wp2
  all_goals
    first
      | (exfalso; rename_i h; exact absurd h (by decide))
      | (go_ret2
         exact ⟨rfl, Below.refl _ _⟩)
def scfF (a f q : Int) : Int := bits .or .u8 (bits .or .u8 (bits .and .u8 f 196) (bits .and .u8 (bits .or .u8 (bits .xor .u8 q f) a) 40)) 1
theorem scf_any (a f q : Int) (w : World) : Calls Tryz.prog 141 #[.int .u8 a, .int .u8 f, .int .u8 q] w fun e w' => e = .returned (.int .u8 (scfF a f q)) ∧ w = w' := by
  unfold scfF
  go_enter Tryz.func141, Tryz.ntmps141
  go_wp2
  go_ret
  exact ⟨rfl, rfl⟩
theorem has_same (f m : Int) (w : World) : Calls Tryz.prog 51 #[.int .u8 f, .int .u8 m] w fun e w' => e = .returned (.bool (hasV f m)) ∧ w = w' := (has_any f m w).mono fun _ _ ⟨h1, h2⟩ => ⟨h1, h2.symm⟩
def ccfF (a f q : Int) : Int := set2V (bits .or .u8 (bits .and .u8 f 196) (bits .and .u8 (bits .or .u8 (bits .xor .u8 q f) a) 40)) 16 1 (hasV f 1) (!hasV f 1)
theorem ccf_any (a f q : Int) (w : World) : Calls Tryz.prog 142 #[.int .u8 a, .int .u8 f, .int .u8 q] w fun e w' => e = .returned (.int .u8 (ccfF a f q)) ∧ Below w.heap.size w w' := by
  unfold ccfF
  have HH := Lib.hid (fun w => has_same f 1 w)
  generalize hasV f 1 = h at HH ⊢
  go_enter Tryz.func142, Tryz.ntmps142
  go_wp2_with (first
    | (go_at_call 51; refine (HH.out _).mono ?_; rintro e w' ⟨rfl, rfl⟩)
    | (go_at_call 152; refine (set2_any _ _ _ _ _ _ _ (Blk.new w 138 [_, _, _, _])).mono ?_; rintro e w2 ⟨rfl, hb2⟩; have HB2 := Lib.hid hb2; clear hb2))
  go_ret
  exact ⟨rfl, ((Below.refl _ _).alloc (Nat.le_refl _) _).trans (HB2.out.mono (by simp))⟩
def turnC (k b : Int) : Int := if k % 2 = 1 then bits .and .u8 b 1 else b / 128
def turnI (k b f : Int) : Int := if k = 0 then b / 128 else if k = 1 then bits .and .u8 b 1 else if k = 2 then bits .and .u8 f 1 else if k = 3 then bits .and .u8 f 1 else if k = 5 then b / 128 else if k = 6 then 1 else 0
def turnR (k b f : Int) : Int := if k = 5 then bits .or .u8 (b / 2) (b / 128 * 128) else if k % 2 = 1 then bits .or .u8 (b / 2) (turnI k b f * 128 % 256) else bits .or .u8 (b * 2 % 256) (turnI k b f)
set_option maxHeartbeats 8000000 in
theorem turned_any (k b f : Int) (w : World) (hk : k = 0 ∨ k = 1 ∨ k = 2 ∨ k = 3 ∨ k = 4 ∨ k = 5 ∨ k = 6 ∨ k = 7) (hb : B8 b) (hf : B8 f) : Calls Tryz.prog 148 #[.int .i64 k, .int .u8 b, .int .u8 f] w fun e w' => e = .returned (.tuple #[.int .u8 (turnR k b f), .int .u8 (turnC k b)]) ∧ w = w' := by
  obtain ⟨b0, b1⟩ := hb; obtain ⟨f0, f1⟩ := hf
  rcases hk with rfl | rfl | rfl | rfl | rfl | rfl | rfl | rfl
  all_goals
    go_enter Tryz.func148, Tryz.ntmps148
    go_wp2
    refine bodyPost_ret (results_tmp2 rfl _ _ _) rfl ?_
    exact ⟨rfl, rfl⟩
theorem b8_turnR (k b f : Int) : B8 (turnR k b f) := by
  unfold turnR
  repeat' split
  all_goals exact b8_bits _ _ _
def accF (k a f : Int) : Int := bits .or .u8 (bits .or .u8 (bits .and .u8 f 196) (bits .and .u8 (turnR k a f) 40)) (turnC k a)
set_option maxHeartbeats 4000000 in
theorem turnAcc_any (k a f : Int) (w : World) (hk : k = 0 ∨ k = 1 ∨ k = 2 ∨ k = 3) (ha : B8 a) (hf : B8 f) : Calls Tryz.prog 143 #[.int .i64 k, .int .u8 a, .int .u8 f] w (Two (turnR k a f) (accF k a f) w) := by
  have H := Lib.hid (fun w => turned_any k a f w (by omega) ha hf)
  unfold accF
  generalize turnR k a f = r at H ⊢
  generalize turnC k a = c at H ⊢
  clear ha hf
  rcases hk with rfl | rfl | rfl | rfl
  all_goals
    go_enter Tryz.func143, Tryz.ntmps143
    go_wp2_with (first
      | (go_at_call 148; refine (H.out _).mono ?_; rintro e w' ⟨rfl, rfl⟩))
    go_ret2
    exact ⟨rfl, Below.refl _ _⟩
def turnDoF (k a f : Int) : Int := bits .or .u8 (ofPV (turnR k a f)) (turnC k a)
set_option maxHeartbeats 8000000 in
theorem turnDo_any (k a f : Int) (w : World) (hk : k = 0 ∨ k = 1 ∨ k = 2 ∨ k = 3 ∨ k = 4 ∨ k = 5 ∨ k = 6 ∨ k = 7) (ha : B8 a) (hf : B8 f) : Calls Tryz.prog 117 #[.int .i64 k, .int .u8 a, .int .u8 f] w (Two (turnR k a f) (turnDoF k a f) w) := by
  have H := Lib.hid (fun w => turned_any k a f w hk ha hf)
  have HP := Lib.hid (fun w => ofP_any (turnR k a f) w (b8_turnR _ _ _))
  unfold turnDoF
  generalize turnR k a f = r at H HP ⊢
  generalize turnC k a = c at H ⊢
  clear ha hf
  rcases hk with rfl | rfl | rfl | rfl | rfl | rfl | rfl | rfl
  all_goals
    go_enter Tryz.func117, Tryz.ntmps117
    go_wp2_with (first
      | (go_at_call 148; refine (H.out _).mono ?_; rintro e w' ⟨rfl, rfl⟩)
      | (go_at_call 79; refine (HP.out _).mono ?_; rintro e w' ⟨rfl, rfl⟩))
    go_ret2
    exact ⟨rfl, Below.refl _ _⟩
end Go.Proofs.YtbhpmnhlmeglcaaGreat
