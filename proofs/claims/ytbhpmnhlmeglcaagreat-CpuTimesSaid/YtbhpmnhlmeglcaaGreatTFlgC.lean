/- alu: sums, differences, and the like, as numbers. -/
import Derived.Test.YtbhpmnhlmeglcaaGreatTFlgB
import Derived.Lib.BitFns
namespace Go.Proofs.YtbhpmnhlmeglcaaGreat
set_option linter.unusedSimpArgs false
set_option linter.unusedVariables false
open Go.RowKit
theorem ret_i64 {a b : Int} (h : a = b) : Ending.returned (.int .i64 a) = .returned (.int .i64 b) := by rw [h]
set_option maxRecDepth 100000 in
theorem ones_any (x : Int) (w : World) (h : B8 x) : Calls Tryz.prog 150 #[.int .u8 x] w fun e w' => e = .returned (.int .i64 ((Lib.onesCount x.toNat : Nat) : Int)) ∧ w' = w := by
  obtain ⟨h0, h1⟩ := h
  have HE := Lib.hid (Lib.pop8_int x h0 h1)
  generalize ((Lib.onesCount x.toNat : Nat) : Int) = n at HE ⊢
  go_enter Tryz.func150, Tryz.ntmps150
  go_wp2
  go_ret
  have he : wrap64 (Lib.pop8 x) = n := by
    unfold wrap64
    exact HE.out
  exact ⟨ret_i64 he, rfl⟩
def evenV (b : Int) : Bool := ((Lib.onesCount b.toNat : Nat) : Int) % 2 == 0
theorem even_any (b : Int) (w : World) (h : B8 b) : Calls Tryz.prog 124 #[.int .u8 b] w fun e w' => e = .returned (.bool (evenV b)) ∧ w = w' := by
  have H := Lib.hid (fun w => ones_any b w h)
  unfold evenV
  generalize Lib.onesCount b.toNat = n at H ⊢
  have hm : Int.tmod (n : Int) 2 = (n : Int) % 2 := Int.tmod_eq_emod_of_nonneg (by omega)
  clear h
  go_enter Tryz.func124, Tryz.ntmps124
  go_wp2_with (first
    | (go_at_call 150; refine (H.out _).mono ?_; rintro e w' ⟨rfl, rfl⟩))
  go_ret
  exact ⟨rfl, rfl⟩
def ofPV (b : Int) : Int := withV (ofV b) 4 (evenV b)
theorem ofP_any (b : Int) (w : World) (h : B8 b) : Calls Tryz.prog 79 #[.int .u8 b] w fun e w' => e = .returned (.int .u8 (ofPV b)) ∧ w = w' := by
  unfold ofPV
  have H := Lib.hid (fun w => even_any b w h)
  clear h
  go_enter Tryz.func79, Tryz.ntmps79
  go_wp2_with (first
    | (go_at_call 124; refine (H.out _).mono ?_; rintro e w' ⟨rfl, rfl⟩)
    | (go_at_call 123; refine (of_any _ _).mono ?_; rintro e w' ⟨rfl, rfl⟩)
    | (go_at_call 122; refine (with_any _ _ _ _).mono ?_; rintro e w' ⟨rfl, rfl⟩))
  go_ret
  exact ⟨rfl, rfl⟩
def addF (a b : Int) (c : Bool) : Int := set3V (ofV ((a + b + oneV c) % 256)) 16 4 1 (decide (15 < a % 16 + b % 16 + oneV c)) (overV (wrap64 (wrap64 (wrap64 (IntKind.i8.wrap a) + wrap64 (IntKind.i8.wrap b)) + oneV c))) (decide (255 < a + b + oneV c))
theorem one01 (c : Bool) : 0 ≤ oneV c ∧ oneV c ≤ 1 := by cases c <;> decide
set_option maxRecDepth 100000 in
set_option maxHeartbeats 4000000 in
theorem add_any (a b : Int) (c : Bool) (w : World) (ha : B8 a) (hb : B8 b) :
    Calls Tryz.prog 137 #[.int .u8 a, .int .u8 b, .bool c] w fun e w' => e = .returned (.tuple #[.int .u8 ((a + b + oneV c) % 256), .int .u8 (addF a b c)]) ∧ Below w.heap.size w w' := by
  unfold addF
  have H1 := Lib.hid (fun w => one_any c w)
  have h01 := one01 c
  obtain ⟨o, ho⟩ : ∃ o, o = oneV c := ⟨_, rfl⟩
  rw [← ho] at H1 h01 ⊢
  obtain ⟨a0, a1⟩ := ha; obtain ⟨b0, b1⟩ := hb; obtain ⟨o0, o1⟩ := h01
  clear ho
  go_enter Tryz.func137, Tryz.ntmps137
  go_wp2_with (first
    | (go_at_call 151; refine (H1.out _).mono ?_; rintro e w' ⟨rfl, rfl⟩)
    | (go_at_call 123; refine (of_any _ _).mono ?_; rintro e w' ⟨rfl, rfl⟩)
    | (go_at_call 153; refine (over_any _ _).mono ?_; rintro e w' ⟨rfl, rfl⟩)
    | (go_at_call 152; refine (set3_any _ _ _ _ _ _ _ _ _ (Blk.new w 138 [_, _, _, _, _, _])).mono ?_; rintro e w2 ⟨rfl, hb2⟩; have HB2 := Lib.hid hb2; clear hb2))
  go_ret2
  exact ⟨rfl, ((Below.refl _ _).alloc (Nat.le_refl _) _).trans (HB2.out.mono (by simp))⟩
def subF (a b : Int) (c : Bool) : Int := set3V (bits .or .u8 (ofV ((a - b - oneV c) % 256)) 2) 16 4 1 (decide (a % 16 - b % 16 - oneV c < 0)) (overV (wrap64 (wrap64 (wrap64 (IntKind.i8.wrap a) - wrap64 (IntKind.i8.wrap b)) - oneV c))) (decide (a - b - oneV c < 0))
set_option maxRecDepth 100000 in
set_option maxHeartbeats 4000000 in
theorem sub_any (a b : Int) (c : Bool) (w : World) (ha : B8 a) (hb : B8 b) :
    Calls Tryz.prog 128 #[.int .u8 a, .int .u8 b, .bool c] w fun e w' => e = .returned (.tuple #[.int .u8 ((a - b - oneV c) % 256), .int .u8 (subF a b c)]) ∧ Below w.heap.size w w' := by
  unfold subF
  have H1 := Lib.hid (fun w => one_any c w)
  have h01 := one01 c
  obtain ⟨o, ho⟩ : ∃ o, o = oneV c := ⟨_, rfl⟩
  rw [← ho] at H1 h01 ⊢
  obtain ⟨a0, a1⟩ := ha; obtain ⟨b0, b1⟩ := hb; obtain ⟨o0, o1⟩ := h01
  clear ho
  go_enter Tryz.func128, Tryz.ntmps128
  go_wp2_with (first
    | (go_at_call 151; refine (H1.out _).mono ?_; rintro e w' ⟨rfl, rfl⟩)
    | (go_at_call 123; refine (of_any _ _).mono ?_; rintro e w' ⟨rfl, rfl⟩)
    | (go_at_call 153; refine (over_any _ _).mono ?_; rintro e w' ⟨rfl, rfl⟩)
    | (go_at_call 152; refine (set3_any _ _ _ _ _ _ _ _ _ (Blk.new w 138 [_, _, _, _, _, _])).mono ?_; rintro e w2 ⟨rfl, hb2⟩; have HB2 := Lib.hid hb2; clear hb2))
  go_ret2
  exact ⟨rfl, ((Below.refl _ _).alloc (Nat.le_refl _) _).trans (HB2.out.mono (by simp))⟩
/-- what an operation leaves: a byte, and F -/
def Two (a f : Int) (w : World) (e : Ending) (w' : World) : Prop := e = .returned (.tuple #[.int .u8 a, .int .u8 f]) ∧ Below w.heap.size w w'
theorem b8_set3 (f a b c : Int) (x y z : Bool) : B8 (set3V f a b c x y z) := by unfold set3V withV; split <;> exact b8_bits _ _ _
theorem b8_set2 (f a b : Int) (x y : Bool) : B8 (set2V f a b x y) := by unfold set2V withV; split <;> exact b8_bits _ _ _
theorem b8_with (f b : Int) (x : Bool) : B8 (withV f b x) := by unfold withV; split <;> exact b8_bits _ _ _
def incF (a f : Int) : Int := bits .or .u8 (bits .andNot .u8 (addF a 1 false) 1) (bits .and .u8 f 1)
set_option maxHeartbeats 2000000 in
theorem inc_any (a f : Int) (w : World) (ha : B8 a) : Calls Tryz.prog 111 #[.int .u8 a, .int .u8 f] w (Two ((a + 1) % 256) (incF a f) w) := by
  have H := Lib.hid (fun w => add_any a 1 false w ha ⟨by decide, by decide⟩)
  have e : (a + 1 + oneV false) % 256 = (a + 1) % 256 := by show (a + 1 + 0) % 256 = _; rw [Int.add_zero]
  rw [e] at H
  unfold incF
  generalize addF a 1 false = F at H ⊢
  generalize (a + 1) % 256 = r at H ⊢
  clear ha e
  go_enter Tryz.func111, Tryz.ntmps111
  go_wp2_with (first
    | (go_at_call 137; refine (H.out _).mono ?_; rintro e w2 ⟨rfl, hb2⟩; have HB2 := Lib.hid hb2; clear hb2))
  go_ret2
  exact ⟨rfl, HB2.out⟩
def decF (a f : Int) : Int := bits .or .u8 (bits .andNot .u8 (subF a 1 false) 1) (bits .and .u8 f 1)
set_option maxHeartbeats 2000000 in
theorem dec_any (a f : Int) (w : World) (ha : B8 a) : Calls Tryz.prog 112 #[.int .u8 a, .int .u8 f] w (Two ((a - 1) % 256) (decF a f) w) := by
  have H := Lib.hid (fun w => sub_any a 1 false w ha ⟨by decide, by decide⟩)
  have e : (a - 1 - oneV false) % 256 = (a - 1) % 256 := by show (a - 1 - 0) % 256 = _; rw [Int.sub_zero]
  rw [e] at H
  unfold decF
  generalize subF a 1 false = F at H ⊢
  generalize (a - 1) % 256 = r at H ⊢
  clear ha e
  go_enter Tryz.func112, Tryz.ntmps112
  go_wp2_with (first
    | (go_at_call 128; refine (H.out _).mono ?_; rintro e w2 ⟨rfl, hb2⟩; have HB2 := Lib.hid hb2; clear hb2))
  go_ret2
  exact ⟨rfl, HB2.out⟩
def cpF (a b : Int) : Int := bits .or .u8 (bits .andNot .u8 (subF a b false) 40) (bits .and .u8 b 40)
set_option maxHeartbeats 2000000 in
theorem cp_any (a b : Int) (w : World) (ha : B8 a) (hb : B8 b) : Calls Tryz.prog 147 #[.int .u8 a, .int .u8 b] w fun e w' => e = .returned (.int .u8 (cpF a b)) ∧ Below w.heap.size w w' := by
  have H := Lib.hid (fun w => sub_any a b false w ha hb)
  unfold cpF
  generalize subF a b false = F at H ⊢
  clear ha hb
  go_enter Tryz.func147, Tryz.ntmps147
  go_wp2_with (first
    | (go_at_call 128; refine (H.out _).mono ?_; rintro e w2 ⟨rfl, hb2⟩; have HB2 := Lib.hid hb2; clear hb2))
  go_ret
  exact ⟨rfl, HB2.out⟩
set_option maxHeartbeats 2000000 in
theorem and_any (a b : Int) (w : World) : Calls Tryz.prog 144 #[.int .u8 a, .int .u8 b] w (Two (bits .and .u8 a b) (bits .or .u8 (ofPV (bits .and .u8 a b)) 16) w) := by
  have H := Lib.hid (fun w => ofP_any (bits .and .u8 a b) w (b8_bits _ _ _))
  go_enter Tryz.func144, Tryz.ntmps144
  go_wp2_with (first
    | (go_at_call 79; refine (H.out _).mono ?_; rintro e w' ⟨rfl, rfl⟩))
  go_ret2
  exact ⟨rfl, Below.refl _ _⟩
set_option maxHeartbeats 2000000 in
theorem xor_any (a b : Int) (w : World) : Calls Tryz.prog 145 #[.int .u8 a, .int .u8 b] w (Two (bits .xor .u8 a b) (ofPV (bits .xor .u8 a b)) w) := by
  have H := Lib.hid (fun w => ofP_any (bits .xor .u8 a b) w (b8_bits _ _ _))
  go_enter Tryz.func145, Tryz.ntmps145
  go_wp2_with (first
    | (go_at_call 79; refine (H.out _).mono ?_; rintro e w' ⟨rfl, rfl⟩))
  go_ret2
  exact ⟨rfl, Below.refl _ _⟩
set_option maxHeartbeats 2000000 in
theorem or_any (a b : Int) (w : World) : Calls Tryz.prog 146 #[.int .u8 a, .int .u8 b] w (Two (bits .or .u8 a b) (ofPV (bits .or .u8 a b)) w) := by
  have H := Lib.hid (fun w => ofP_any (bits .or .u8 a b) w (b8_bits _ _ _))
  go_enter Tryz.func146, Tryz.ntmps146
  go_wp2_with (first
    | (go_at_call 79; refine (H.out _).mono ?_; rintro e w' ⟨rfl, rfl⟩))
  go_ret2
  exact ⟨rfl, Below.refl _ _⟩
def doA (k a b f : Int) : Int := if k = 0 then (a + b + oneV false) % 256 else if k = 1 then (a + b + oneV (hasV f 1)) % 256 else if k = 2 then (a - b - oneV false) % 256 else if k = 3 then (a - b - oneV (hasV f 1)) % 256 else if k = 4 then bits .and .u8 a b else if k = 5 then bits .xor .u8 a b else if k = 6 then bits .or .u8 a b else a
def doF (k a b f : Int) : Int := if k = 0 then addF a b false else if k = 1 then addF a b (hasV f 1) else if k = 2 then subF a b false else if k = 3 then subF a b (hasV f 1) else if k = 4 then bits .or .u8 (ofPV (bits .and .u8 a b)) 16 else if k = 5 then ofPV (bits .xor .u8 a b) else if k = 6 then ofPV (bits .or .u8 a b) else cpF a b
set_option maxHeartbeats 8000000 in
theorem do_any (k a b f : Int) (w : World) (hk : 0 ≤ k ∧ k ≤ 7) (ha : B8 a) (hb : B8 b) : Calls Tryz.prog 115 #[.int .i64 k, .int .u8 a, .int .u8 b, .int .u8 f] w (Two (doA k a b f) (doF k a b f) w) := by
  have HH := Lib.hid (fun w => has_any f 1 w)
  have HA := Lib.hid (fun c w => add_any a b c w ha hb)
  have HS := Lib.hid (fun c w => sub_any a b c w ha hb)
  have HC := Lib.hid (fun w => cp_any a b w ha hb)
  generalize hh : hasV f 1 = h at HH
  have hkk : k = 0 ∨ k = 1 ∨ k = 2 ∨ k = 3 ∨ k = 4 ∨ k = 5 ∨ k = 6 ∨ k = 7 := by omega
  have eA : ∃ r, doA k a b f = r := ⟨_, rfl⟩
  obtain ⟨RA, hRA⟩ := eA
  obtain ⟨RF, hRF⟩ : ∃ r, doF k a b f = r := ⟨_, rfl⟩
  rw [hRA, hRF]
  unfold doA at hRA; unfold doF at hRF
  rw [hh] at hRA hRF
  clear hk ha hb hh
  rcases hkk with rfl | rfl | rfl | rfl | rfl | rfl | rfl | rfl
  all_goals
    simp at hRA hRF
    have H1 := Lib.hid hRA; have H2 := Lib.hid hRF
    clear hRA hRF
    go_enter Tryz.func115, Tryz.ntmps115
    go_wp2_with (first
      | (go_at_call 51; refine (HH.out _).mono ?_; rintro e w' ⟨rfl, rfl⟩)
      | (go_at_call 137; refine (HA.out _ _).mono ?_; rintro e w2 ⟨rfl, hb2⟩; have HB2 := Lib.hid hb2; clear hb2)
      | (go_at_call 128; refine (HS.out _ _).mono ?_; rintro e w2 ⟨rfl, hb2⟩; have HB2 := Lib.hid hb2; clear hb2)
      | (go_at_call 144; refine (and_any a b _).mono ?_; rintro e w2 ⟨rfl, hb2⟩; have HB2 := Lib.hid hb2; clear hb2)
      | (go_at_call 145; refine (xor_any a b _).mono ?_; rintro e w2 ⟨rfl, hb2⟩; have HB2 := Lib.hid hb2; clear hb2)
      | (go_at_call 146; refine (or_any a b _).mono ?_; rintro e w2 ⟨rfl, hb2⟩; have HB2 := Lib.hid hb2; clear hb2)
      | (go_at_call 147; refine (HC.out _).mono ?_; rintro e w2 ⟨rfl, hb2⟩; have HB2 := Lib.hid hb2; clear hb2))
    go_ret2
    refine ⟨?_, HB2.out⟩
    rw [← H1.out, ← H2.out]
    rfl
end Go.Proofs.YtbhpmnhlmeglcaaGreat
