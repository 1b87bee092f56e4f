/- Package micro: the walks, as gen_micro.py prints them. -/
import Derived.Test.YtbhpmnhlmeglcaaGreatTMicE
namespace Go.Proofs.YtbhpmnhlmeglcaaGreat
set_option linter.unusedSimpArgs false
set_option linter.unusedVariables false
open Go.RowKit

set_option maxRecDepth 100000 in
set_option maxHeartbeats 4000000 in
theorem second_any (c : Int) (base n : Nat) (v : Value) (xs : List Value) (w : World) (ho : w.ownsRow base 65 4 v n xs) (hb : base ≤ w.heap.size) (hx0 : xs.length ≤ 4000) (h0 : 0 ≤ c) (h1 : c ≤ 255) :
    Calls Tryz.prog 60 #[v, .int .u8 c] w (Next_ base w v xs (flat (Mi.secondS c))) := by
  have HS := Lib.hid (St.refl ho hb)
  clear ho hb
  have key : (c / 64 = 2 ∧ 4 ≤ c / 8 % 8 ∧ c % 8 ≤ 3) ∨ (c / 64 = 2 ∧ 4 ≤ c / 8 % 8 ∧ 3 < c % 8) ∨ (c / 64 = 2 ∧ c / 8 % 8 < 4) ∨ (c / 64 = 0) ∨ (c / 64 = 3) ∨ (c / 64 = 1 ∧ c % 8 = 0) ∨ (c / 64 = 1 ∧ c % 8 = 1) ∨ (c / 64 = 1 ∧ c % 8 = 2) ∨ (c / 64 = 1 ∧ c % 8 = 4) ∨ (c / 64 = 1 ∧ c % 8 = 5) ∨ (c / 64 = 1 ∧ c % 8 = 6) ∨ (c / 64 = 1 ∧ c % 8 = 7) ∨ (c / 64 = 1 ∧ c % 8 = 3 ∧ c / 8 % 2 = 0) ∨ (c / 64 = 1 ∧ c % 8 = 3 ∧ c / 8 % 2 = 1) := by omega
  rcases key with ⟨k0, k1, k2⟩ | ⟨k0, k1, k2⟩ | ⟨k0, k1⟩ | k0 | k0 | ⟨k0, k1⟩ | ⟨k0, k1⟩ | ⟨k0, k1⟩ | ⟨k0, k1⟩ | ⟨k0, k1⟩ | ⟨k0, k1⟩ | ⟨k0, k1⟩ | ⟨k0, k1, k2⟩ | ⟨k0, k1, k2⟩
  · skip
    go_enter Tryz.func60, Tryz.ntmps60
    go_wp2_with (first
      | (go_at_call 54; refine (x_any _ _ h0 h1).mono ?_; rintro e w' ⟨rfl, rfl⟩)
      | (go_at_call 97; refine (y_any _ _ h0 h1).mono ?_; rintro e w' ⟨rfl, rfl⟩)
      | (go_at_call 89; refine (z_any _ _ h0 h1).mono ?_; rintro e w' ⟨rfl, rfl⟩)
      | (go_at_call 91; refine (q_any _ _ h0 h1).mono ?_; rintro e w' ⟨rfl, rfl⟩)
      | (go_at_call 93; refine (HS.out.call (by omega) (by simp [flat_len, Mi.wordS]) fun n ho hb hx => word_any base n _ _ _ ho hb hx).mono ?_; rintro e w' ⟨v1, rfl, hs⟩; have HS := Lib.hid hs; clear hs)
      | (go_at_call 106; refine (HS.out.call (by omega) (by simp) fun n ho hb hx => blocks_any c base n _ _ _ ho hb (by simpa using hx0) h0 h1 (by omega)).mono ?_; rintro e w' ⟨v1, rfl, hs⟩; have HS := Lib.hid hs; clear hs)
      | (go_at_call 107; refine (HS.out.call (by omega) (by simp) fun n ho hb hx => specials_any c base n _ _ _ ho hb (by simpa using hx0) h0 h1).mono ?_; rintro e w' ⟨v1, rfl, hs⟩; have HS := Lib.hid hs; clear hs)
      | (go_at_call 99; refine (read_step _ _ _).mono ?_; rintro e w' ⟨rfl, hb⟩; have HS := Lib.hid (HS.out.below hb); clear hb)
      | (go_at_call 100; refine (write_step _ _ _).mono ?_; rintro e w' ⟨rfl, hb⟩; have HS := Lib.hid (HS.out.below hb); clear hb)
      | (go_at_call 95; refine (wait_any _ _ _).mono ?_; rintro e w' ⟨rfl, hb⟩; have HS := Lib.hid (HS.out.below hb); clear hb)
      | (go_at_call 94; refine (work_any _ _).mono ?_; rintro e w' ⟨rfl, hb⟩; have HS := Lib.hid (HS.out.below hb); clear hb)
      | (go_at_call 101; refine (unless_any _ _).mono ?_; rintro e w' ⟨rfl, hb⟩; have HS := Lib.hid (HS.out.below hb); clear hb)
      | (go_at_call 92; refine (more_st HS.out _ _ (by omega) (by simp [flat_len, Mi.wordS, Mi.placeS]; try (split <;> simp)) (by omega) (by omega) rfl (by simp [Value.oneCell'])).mono ?_; rintro e w' ⟨v1, rfl, hs⟩; have HS := Lib.hid hs; clear hs))
    go_ret
    exact ⟨_, rfl, HS.out.cast (by simp [Mi.secondS, Mi.wordS, flat, stp, Mi.readS, Mi.writeS, Mi.waitS, Mi.workS, Mi.unlessS, k0, k1, k2] <;> (intros; omega))⟩
  · skip
    go_enter Tryz.func60, Tryz.ntmps60
    go_wp2_with (first
      | (go_at_call 54; refine (x_any _ _ h0 h1).mono ?_; rintro e w' ⟨rfl, rfl⟩)
      | (go_at_call 97; refine (y_any _ _ h0 h1).mono ?_; rintro e w' ⟨rfl, rfl⟩)
      | (go_at_call 89; refine (z_any _ _ h0 h1).mono ?_; rintro e w' ⟨rfl, rfl⟩)
      | (go_at_call 91; refine (q_any _ _ h0 h1).mono ?_; rintro e w' ⟨rfl, rfl⟩)
      | (go_at_call 93; refine (HS.out.call (by omega) (by simp [flat_len, Mi.wordS]) fun n ho hb hx => word_any base n _ _ _ ho hb hx).mono ?_; rintro e w' ⟨v1, rfl, hs⟩; have HS := Lib.hid hs; clear hs)
      | (go_at_call 106; refine (HS.out.call (by omega) (by simp) fun n ho hb hx => blocks_any c base n _ _ _ ho hb (by simpa using hx0) h0 h1 (by omega)).mono ?_; rintro e w' ⟨v1, rfl, hs⟩; have HS := Lib.hid hs; clear hs)
      | (go_at_call 107; refine (HS.out.call (by omega) (by simp) fun n ho hb hx => specials_any c base n _ _ _ ho hb (by simpa using hx0) h0 h1).mono ?_; rintro e w' ⟨v1, rfl, hs⟩; have HS := Lib.hid hs; clear hs)
      | (go_at_call 99; refine (read_step _ _ _).mono ?_; rintro e w' ⟨rfl, hb⟩; have HS := Lib.hid (HS.out.below hb); clear hb)
      | (go_at_call 100; refine (write_step _ _ _).mono ?_; rintro e w' ⟨rfl, hb⟩; have HS := Lib.hid (HS.out.below hb); clear hb)
      | (go_at_call 95; refine (wait_any _ _ _).mono ?_; rintro e w' ⟨rfl, hb⟩; have HS := Lib.hid (HS.out.below hb); clear hb)
      | (go_at_call 94; refine (work_any _ _).mono ?_; rintro e w' ⟨rfl, hb⟩; have HS := Lib.hid (HS.out.below hb); clear hb)
      | (go_at_call 101; refine (unless_any _ _).mono ?_; rintro e w' ⟨rfl, hb⟩; have HS := Lib.hid (HS.out.below hb); clear hb)
      | (go_at_call 92; refine (more_st HS.out _ _ (by omega) (by simp [flat_len, Mi.wordS, Mi.placeS]; try (split <;> simp)) (by omega) (by omega) rfl (by simp [Value.oneCell'])).mono ?_; rintro e w' ⟨v1, rfl, hs⟩; have HS := Lib.hid hs; clear hs))
    go_ret
    exact ⟨_, rfl, HS.out.cast (by simp [Mi.secondS, Mi.wordS, flat, stp, Mi.readS, Mi.writeS, Mi.waitS, Mi.workS, Mi.unlessS, k0, k1, k2] <;> (intros; omega))⟩
  · skip
    go_enter Tryz.func60, Tryz.ntmps60
    go_wp2_with (first
      | (go_at_call 54; refine (x_any _ _ h0 h1).mono ?_; rintro e w' ⟨rfl, rfl⟩)
      | (go_at_call 97; refine (y_any _ _ h0 h1).mono ?_; rintro e w' ⟨rfl, rfl⟩)
      | (go_at_call 89; refine (z_any _ _ h0 h1).mono ?_; rintro e w' ⟨rfl, rfl⟩)
      | (go_at_call 91; refine (q_any _ _ h0 h1).mono ?_; rintro e w' ⟨rfl, rfl⟩)
      | (go_at_call 93; refine (HS.out.call (by omega) (by simp [flat_len, Mi.wordS]) fun n ho hb hx => word_any base n _ _ _ ho hb hx).mono ?_; rintro e w' ⟨v1, rfl, hs⟩; have HS := Lib.hid hs; clear hs)
      | (go_at_call 106; refine (HS.out.call (by omega) (by simp) fun n ho hb hx => blocks_any c base n _ _ _ ho hb (by simpa using hx0) h0 h1 (by omega)).mono ?_; rintro e w' ⟨v1, rfl, hs⟩; have HS := Lib.hid hs; clear hs)
      | (go_at_call 107; refine (HS.out.call (by omega) (by simp) fun n ho hb hx => specials_any c base n _ _ _ ho hb (by simpa using hx0) h0 h1).mono ?_; rintro e w' ⟨v1, rfl, hs⟩; have HS := Lib.hid hs; clear hs)
      | (go_at_call 99; refine (read_step _ _ _).mono ?_; rintro e w' ⟨rfl, hb⟩; have HS := Lib.hid (HS.out.below hb); clear hb)
      | (go_at_call 100; refine (write_step _ _ _).mono ?_; rintro e w' ⟨rfl, hb⟩; have HS := Lib.hid (HS.out.below hb); clear hb)
      | (go_at_call 95; refine (wait_any _ _ _).mono ?_; rintro e w' ⟨rfl, hb⟩; have HS := Lib.hid (HS.out.below hb); clear hb)
      | (go_at_call 94; refine (work_any _ _).mono ?_; rintro e w' ⟨rfl, hb⟩; have HS := Lib.hid (HS.out.below hb); clear hb)
      | (go_at_call 101; refine (unless_any _ _).mono ?_; rintro e w' ⟨rfl, hb⟩; have HS := Lib.hid (HS.out.below hb); clear hb)
      | (go_at_call 92; refine (more_st HS.out _ _ (by omega) (by simp [flat_len, Mi.wordS, Mi.placeS]; try (split <;> simp)) (by omega) (by omega) rfl (by simp [Value.oneCell'])).mono ?_; rintro e w' ⟨v1, rfl, hs⟩; have HS := Lib.hid hs; clear hs))
    go_ret
    exact ⟨_, rfl, HS.out.cast (by simp [Mi.secondS, Mi.wordS, flat, stp, Mi.readS, Mi.writeS, Mi.waitS, Mi.workS, Mi.unlessS, k0, k1] <;> (intros; omega))⟩
  · skip
    go_enter Tryz.func60, Tryz.ntmps60
    go_wp2_with (first
      | (go_at_call 54; refine (x_any _ _ h0 h1).mono ?_; rintro e w' ⟨rfl, rfl⟩)
      | (go_at_call 97; refine (y_any _ _ h0 h1).mono ?_; rintro e w' ⟨rfl, rfl⟩)
      | (go_at_call 89; refine (z_any _ _ h0 h1).mono ?_; rintro e w' ⟨rfl, rfl⟩)
      | (go_at_call 91; refine (q_any _ _ h0 h1).mono ?_; rintro e w' ⟨rfl, rfl⟩)
      | (go_at_call 93; refine (HS.out.call (by omega) (by simp [flat_len, Mi.wordS]) fun n ho hb hx => word_any base n _ _ _ ho hb hx).mono ?_; rintro e w' ⟨v1, rfl, hs⟩; have HS := Lib.hid hs; clear hs)
      | (go_at_call 106; refine (HS.out.call (by omega) (by simp) fun n ho hb hx => blocks_any c base n _ _ _ ho hb (by simpa using hx0) h0 h1 (by omega)).mono ?_; rintro e w' ⟨v1, rfl, hs⟩; have HS := Lib.hid hs; clear hs)
      | (go_at_call 107; refine (HS.out.call (by omega) (by simp) fun n ho hb hx => specials_any c base n _ _ _ ho hb (by simpa using hx0) h0 h1).mono ?_; rintro e w' ⟨v1, rfl, hs⟩; have HS := Lib.hid hs; clear hs)
      | (go_at_call 99; refine (read_step _ _ _).mono ?_; rintro e w' ⟨rfl, hb⟩; have HS := Lib.hid (HS.out.below hb); clear hb)
      | (go_at_call 100; refine (write_step _ _ _).mono ?_; rintro e w' ⟨rfl, hb⟩; have HS := Lib.hid (HS.out.below hb); clear hb)
      | (go_at_call 95; refine (wait_any _ _ _).mono ?_; rintro e w' ⟨rfl, hb⟩; have HS := Lib.hid (HS.out.below hb); clear hb)
      | (go_at_call 94; refine (work_any _ _).mono ?_; rintro e w' ⟨rfl, hb⟩; have HS := Lib.hid (HS.out.below hb); clear hb)
      | (go_at_call 101; refine (unless_any _ _).mono ?_; rintro e w' ⟨rfl, hb⟩; have HS := Lib.hid (HS.out.below hb); clear hb)
      | (go_at_call 92; refine (more_st HS.out _ _ (by omega) (by simp [flat_len, Mi.wordS, Mi.placeS]; try (split <;> simp)) (by omega) (by omega) rfl (by simp [Value.oneCell'])).mono ?_; rintro e w' ⟨v1, rfl, hs⟩; have HS := Lib.hid hs; clear hs))
    go_ret
    exact ⟨_, rfl, HS.out.cast (by simp [Mi.secondS, Mi.wordS, flat, stp, Mi.readS, Mi.writeS, Mi.waitS, Mi.workS, Mi.unlessS, k0] <;> (intros; omega))⟩
  · skip
    go_enter Tryz.func60, Tryz.ntmps60
    go_wp2_with (first
      | (go_at_call 54; refine (x_any _ _ h0 h1).mono ?_; rintro e w' ⟨rfl, rfl⟩)
      | (go_at_call 97; refine (y_any _ _ h0 h1).mono ?_; rintro e w' ⟨rfl, rfl⟩)
      | (go_at_call 89; refine (z_any _ _ h0 h1).mono ?_; rintro e w' ⟨rfl, rfl⟩)
      | (go_at_call 91; refine (q_any _ _ h0 h1).mono ?_; rintro e w' ⟨rfl, rfl⟩)
      | (go_at_call 93; refine (HS.out.call (by omega) (by simp [flat_len, Mi.wordS]) fun n ho hb hx => word_any base n _ _ _ ho hb hx).mono ?_; rintro e w' ⟨v1, rfl, hs⟩; have HS := Lib.hid hs; clear hs)
      | (go_at_call 106; refine (HS.out.call (by omega) (by simp) fun n ho hb hx => blocks_any c base n _ _ _ ho hb (by simpa using hx0) h0 h1 (by omega)).mono ?_; rintro e w' ⟨v1, rfl, hs⟩; have HS := Lib.hid hs; clear hs)
      | (go_at_call 107; refine (HS.out.call (by omega) (by simp) fun n ho hb hx => specials_any c base n _ _ _ ho hb (by simpa using hx0) h0 h1).mono ?_; rintro e w' ⟨v1, rfl, hs⟩; have HS := Lib.hid hs; clear hs)
      | (go_at_call 99; refine (read_step _ _ _).mono ?_; rintro e w' ⟨rfl, hb⟩; have HS := Lib.hid (HS.out.below hb); clear hb)
      | (go_at_call 100; refine (write_step _ _ _).mono ?_; rintro e w' ⟨rfl, hb⟩; have HS := Lib.hid (HS.out.below hb); clear hb)
      | (go_at_call 95; refine (wait_any _ _ _).mono ?_; rintro e w' ⟨rfl, hb⟩; have HS := Lib.hid (HS.out.below hb); clear hb)
      | (go_at_call 94; refine (work_any _ _).mono ?_; rintro e w' ⟨rfl, hb⟩; have HS := Lib.hid (HS.out.below hb); clear hb)
      | (go_at_call 101; refine (unless_any _ _).mono ?_; rintro e w' ⟨rfl, hb⟩; have HS := Lib.hid (HS.out.below hb); clear hb)
      | (go_at_call 92; refine (more_st HS.out _ _ (by omega) (by simp [flat_len, Mi.wordS, Mi.placeS]; try (split <;> simp)) (by omega) (by omega) rfl (by simp [Value.oneCell'])).mono ?_; rintro e w' ⟨v1, rfl, hs⟩; have HS := Lib.hid hs; clear hs))
    go_ret
    exact ⟨_, rfl, HS.out.cast (by simp [Mi.secondS, Mi.wordS, flat, stp, Mi.readS, Mi.writeS, Mi.waitS, Mi.workS, Mi.unlessS, k0] <;> (intros; omega))⟩
  · skip
    go_enter Tryz.func60, Tryz.ntmps60
    go_wp2_with (first
      | (go_at_call 54; refine (x_any _ _ h0 h1).mono ?_; rintro e w' ⟨rfl, rfl⟩)
      | (go_at_call 97; refine (y_any _ _ h0 h1).mono ?_; rintro e w' ⟨rfl, rfl⟩)
      | (go_at_call 89; refine (z_any _ _ h0 h1).mono ?_; rintro e w' ⟨rfl, rfl⟩)
      | (go_at_call 91; refine (q_any _ _ h0 h1).mono ?_; rintro e w' ⟨rfl, rfl⟩)
      | (go_at_call 93; refine (HS.out.call (by omega) (by simp [flat_len, Mi.wordS]) fun n ho hb hx => word_any base n _ _ _ ho hb hx).mono ?_; rintro e w' ⟨v1, rfl, hs⟩; have HS := Lib.hid hs; clear hs)
      | (go_at_call 106; refine (HS.out.call (by omega) (by simp) fun n ho hb hx => blocks_any c base n _ _ _ ho hb (by simpa using hx0) h0 h1 (by omega)).mono ?_; rintro e w' ⟨v1, rfl, hs⟩; have HS := Lib.hid hs; clear hs)
      | (go_at_call 107; refine (HS.out.call (by omega) (by simp) fun n ho hb hx => specials_any c base n _ _ _ ho hb (by simpa using hx0) h0 h1).mono ?_; rintro e w' ⟨v1, rfl, hs⟩; have HS := Lib.hid hs; clear hs)
      | (go_at_call 99; refine (read_step _ _ _).mono ?_; rintro e w' ⟨rfl, hb⟩; have HS := Lib.hid (HS.out.below hb); clear hb)
      | (go_at_call 100; refine (write_step _ _ _).mono ?_; rintro e w' ⟨rfl, hb⟩; have HS := Lib.hid (HS.out.below hb); clear hb)
      | (go_at_call 95; refine (wait_any _ _ _).mono ?_; rintro e w' ⟨rfl, hb⟩; have HS := Lib.hid (HS.out.below hb); clear hb)
      | (go_at_call 94; refine (work_any _ _).mono ?_; rintro e w' ⟨rfl, hb⟩; have HS := Lib.hid (HS.out.below hb); clear hb)
      | (go_at_call 101; refine (unless_any _ _).mono ?_; rintro e w' ⟨rfl, hb⟩; have HS := Lib.hid (HS.out.below hb); clear hb)
      | (go_at_call 92; refine (more_st HS.out _ _ (by omega) (by simp [flat_len, Mi.wordS, Mi.placeS]; try (split <;> simp)) (by omega) (by omega) rfl (by simp [Value.oneCell'])).mono ?_; rintro e w' ⟨v1, rfl, hs⟩; have HS := Lib.hid hs; clear hs))
    go_ret
    exact ⟨_, rfl, HS.out.cast (by simp [Mi.secondS, Mi.wordS, flat, stp, Mi.readS, Mi.writeS, Mi.waitS, Mi.workS, Mi.unlessS, k0, k1] <;> (intros; omega))⟩
  · skip
    go_enter Tryz.func60, Tryz.ntmps60
    go_wp2_with (first
      | (go_at_call 54; refine (x_any _ _ h0 h1).mono ?_; rintro e w' ⟨rfl, rfl⟩)
      | (go_at_call 97; refine (y_any _ _ h0 h1).mono ?_; rintro e w' ⟨rfl, rfl⟩)
      | (go_at_call 89; refine (z_any _ _ h0 h1).mono ?_; rintro e w' ⟨rfl, rfl⟩)
      | (go_at_call 91; refine (q_any _ _ h0 h1).mono ?_; rintro e w' ⟨rfl, rfl⟩)
      | (go_at_call 93; refine (HS.out.call (by omega) (by simp [flat_len, Mi.wordS]) fun n ho hb hx => word_any base n _ _ _ ho hb hx).mono ?_; rintro e w' ⟨v1, rfl, hs⟩; have HS := Lib.hid hs; clear hs)
      | (go_at_call 106; refine (HS.out.call (by omega) (by simp) fun n ho hb hx => blocks_any c base n _ _ _ ho hb (by simpa using hx0) h0 h1 (by omega)).mono ?_; rintro e w' ⟨v1, rfl, hs⟩; have HS := Lib.hid hs; clear hs)
      | (go_at_call 107; refine (HS.out.call (by omega) (by simp) fun n ho hb hx => specials_any c base n _ _ _ ho hb (by simpa using hx0) h0 h1).mono ?_; rintro e w' ⟨v1, rfl, hs⟩; have HS := Lib.hid hs; clear hs)
      | (go_at_call 99; refine (read_step _ _ _).mono ?_; rintro e w' ⟨rfl, hb⟩; have HS := Lib.hid (HS.out.below hb); clear hb)
      | (go_at_call 100; refine (write_step _ _ _).mono ?_; rintro e w' ⟨rfl, hb⟩; have HS := Lib.hid (HS.out.below hb); clear hb)
      | (go_at_call 95; refine (wait_any _ _ _).mono ?_; rintro e w' ⟨rfl, hb⟩; have HS := Lib.hid (HS.out.below hb); clear hb)
      | (go_at_call 94; refine (work_any _ _).mono ?_; rintro e w' ⟨rfl, hb⟩; have HS := Lib.hid (HS.out.below hb); clear hb)
      | (go_at_call 101; refine (unless_any _ _).mono ?_; rintro e w' ⟨rfl, hb⟩; have HS := Lib.hid (HS.out.below hb); clear hb)
      | (go_at_call 92; refine (more_st HS.out _ _ (by omega) (by simp [flat_len, Mi.wordS, Mi.placeS]; try (split <;> simp)) (by omega) (by omega) rfl (by simp [Value.oneCell'])).mono ?_; rintro e w' ⟨v1, rfl, hs⟩; have HS := Lib.hid hs; clear hs))
    go_ret
    exact ⟨_, rfl, HS.out.cast (by simp [Mi.secondS, Mi.wordS, flat, stp, Mi.readS, Mi.writeS, Mi.waitS, Mi.workS, Mi.unlessS, k0, k1] <;> (intros; omega))⟩
  · skip
    go_enter Tryz.func60, Tryz.ntmps60
    go_wp2_with (first
      | (go_at_call 54; refine (x_any _ _ h0 h1).mono ?_; rintro e w' ⟨rfl, rfl⟩)
      | (go_at_call 97; refine (y_any _ _ h0 h1).mono ?_; rintro e w' ⟨rfl, rfl⟩)
      | (go_at_call 89; refine (z_any _ _ h0 h1).mono ?_; rintro e w' ⟨rfl, rfl⟩)
      | (go_at_call 91; refine (q_any _ _ h0 h1).mono ?_; rintro e w' ⟨rfl, rfl⟩)
      | (go_at_call 93; refine (HS.out.call (by omega) (by simp [flat_len, Mi.wordS]) fun n ho hb hx => word_any base n _ _ _ ho hb hx).mono ?_; rintro e w' ⟨v1, rfl, hs⟩; have HS := Lib.hid hs; clear hs)
      | (go_at_call 106; refine (HS.out.call (by omega) (by simp) fun n ho hb hx => blocks_any c base n _ _ _ ho hb (by simpa using hx0) h0 h1 (by omega)).mono ?_; rintro e w' ⟨v1, rfl, hs⟩; have HS := Lib.hid hs; clear hs)
      | (go_at_call 107; refine (HS.out.call (by omega) (by simp) fun n ho hb hx => specials_any c base n _ _ _ ho hb (by simpa using hx0) h0 h1).mono ?_; rintro e w' ⟨v1, rfl, hs⟩; have HS := Lib.hid hs; clear hs)
      | (go_at_call 99; refine (read_step _ _ _).mono ?_; rintro e w' ⟨rfl, hb⟩; have HS := Lib.hid (HS.out.below hb); clear hb)
      | (go_at_call 100; refine (write_step _ _ _).mono ?_; rintro e w' ⟨rfl, hb⟩; have HS := Lib.hid (HS.out.below hb); clear hb)
      | (go_at_call 95; refine (wait_any _ _ _).mono ?_; rintro e w' ⟨rfl, hb⟩; have HS := Lib.hid (HS.out.below hb); clear hb)
      | (go_at_call 94; refine (work_any _ _).mono ?_; rintro e w' ⟨rfl, hb⟩; have HS := Lib.hid (HS.out.below hb); clear hb)
      | (go_at_call 101; refine (unless_any _ _).mono ?_; rintro e w' ⟨rfl, hb⟩; have HS := Lib.hid (HS.out.below hb); clear hb)
      | (go_at_call 92; refine (more_st HS.out _ _ (by omega) (by simp [flat_len, Mi.wordS, Mi.placeS]; try (split <;> simp)) (by omega) (by omega) rfl (by simp [Value.oneCell'])).mono ?_; rintro e w' ⟨v1, rfl, hs⟩; have HS := Lib.hid hs; clear hs))
    go_ret
    exact ⟨_, rfl, HS.out.cast (by simp [Mi.secondS, Mi.wordS, flat, stp, Mi.readS, Mi.writeS, Mi.waitS, Mi.workS, Mi.unlessS, k0, k1] <;> (intros; omega))⟩
  · skip
    go_enter Tryz.func60, Tryz.ntmps60
    go_wp2_with (first
      | (go_at_call 54; refine (x_any _ _ h0 h1).mono ?_; rintro e w' ⟨rfl, rfl⟩)
      | (go_at_call 97; refine (y_any _ _ h0 h1).mono ?_; rintro e w' ⟨rfl, rfl⟩)
      | (go_at_call 89; refine (z_any _ _ h0 h1).mono ?_; rintro e w' ⟨rfl, rfl⟩)
      | (go_at_call 91; refine (q_any _ _ h0 h1).mono ?_; rintro e w' ⟨rfl, rfl⟩)
      | (go_at_call 93; refine (HS.out.call (by omega) (by simp [flat_len, Mi.wordS]) fun n ho hb hx => word_any base n _ _ _ ho hb hx).mono ?_; rintro e w' ⟨v1, rfl, hs⟩; have HS := Lib.hid hs; clear hs)
      | (go_at_call 106; refine (HS.out.call (by omega) (by simp) fun n ho hb hx => blocks_any c base n _ _ _ ho hb (by simpa using hx0) h0 h1 (by omega)).mono ?_; rintro e w' ⟨v1, rfl, hs⟩; have HS := Lib.hid hs; clear hs)
      | (go_at_call 107; refine (HS.out.call (by omega) (by simp) fun n ho hb hx => specials_any c base n _ _ _ ho hb (by simpa using hx0) h0 h1).mono ?_; rintro e w' ⟨v1, rfl, hs⟩; have HS := Lib.hid hs; clear hs)
      | (go_at_call 99; refine (read_step _ _ _).mono ?_; rintro e w' ⟨rfl, hb⟩; have HS := Lib.hid (HS.out.below hb); clear hb)
      | (go_at_call 100; refine (write_step _ _ _).mono ?_; rintro e w' ⟨rfl, hb⟩; have HS := Lib.hid (HS.out.below hb); clear hb)
      | (go_at_call 95; refine (wait_any _ _ _).mono ?_; rintro e w' ⟨rfl, hb⟩; have HS := Lib.hid (HS.out.below hb); clear hb)
      | (go_at_call 94; refine (work_any _ _).mono ?_; rintro e w' ⟨rfl, hb⟩; have HS := Lib.hid (HS.out.below hb); clear hb)
      | (go_at_call 101; refine (unless_any _ _).mono ?_; rintro e w' ⟨rfl, hb⟩; have HS := Lib.hid (HS.out.below hb); clear hb)
      | (go_at_call 92; refine (more_st HS.out _ _ (by omega) (by simp [flat_len, Mi.wordS, Mi.placeS]; try (split <;> simp)) (by omega) (by omega) rfl (by simp [Value.oneCell'])).mono ?_; rintro e w' ⟨v1, rfl, hs⟩; have HS := Lib.hid hs; clear hs))
    go_ret
    exact ⟨_, rfl, HS.out.cast (by simp [Mi.secondS, Mi.wordS, flat, stp, Mi.readS, Mi.writeS, Mi.waitS, Mi.workS, Mi.unlessS, k0, k1] <;> (intros; omega))⟩
  · skip
    go_enter Tryz.func60, Tryz.ntmps60
    go_wp2_with (first
      | (go_at_call 54; refine (x_any _ _ h0 h1).mono ?_; rintro e w' ⟨rfl, rfl⟩)
      | (go_at_call 97; refine (y_any _ _ h0 h1).mono ?_; rintro e w' ⟨rfl, rfl⟩)
      | (go_at_call 89; refine (z_any _ _ h0 h1).mono ?_; rintro e w' ⟨rfl, rfl⟩)
      | (go_at_call 91; refine (q_any _ _ h0 h1).mono ?_; rintro e w' ⟨rfl, rfl⟩)
      | (go_at_call 93; refine (HS.out.call (by omega) (by simp [flat_len, Mi.wordS]) fun n ho hb hx => word_any base n _ _ _ ho hb hx).mono ?_; rintro e w' ⟨v1, rfl, hs⟩; have HS := Lib.hid hs; clear hs)
      | (go_at_call 106; refine (HS.out.call (by omega) (by simp) fun n ho hb hx => blocks_any c base n _ _ _ ho hb (by simpa using hx0) h0 h1 (by omega)).mono ?_; rintro e w' ⟨v1, rfl, hs⟩; have HS := Lib.hid hs; clear hs)
      | (go_at_call 107; refine (HS.out.call (by omega) (by simp) fun n ho hb hx => specials_any c base n _ _ _ ho hb (by simpa using hx0) h0 h1).mono ?_; rintro e w' ⟨v1, rfl, hs⟩; have HS := Lib.hid hs; clear hs)
      | (go_at_call 99; refine (read_step _ _ _).mono ?_; rintro e w' ⟨rfl, hb⟩; have HS := Lib.hid (HS.out.below hb); clear hb)
      | (go_at_call 100; refine (write_step _ _ _).mono ?_; rintro e w' ⟨rfl, hb⟩; have HS := Lib.hid (HS.out.below hb); clear hb)
      | (go_at_call 95; refine (wait_any _ _ _).mono ?_; rintro e w' ⟨rfl, hb⟩; have HS := Lib.hid (HS.out.below hb); clear hb)
      | (go_at_call 94; refine (work_any _ _).mono ?_; rintro e w' ⟨rfl, hb⟩; have HS := Lib.hid (HS.out.below hb); clear hb)
      | (go_at_call 101; refine (unless_any _ _).mono ?_; rintro e w' ⟨rfl, hb⟩; have HS := Lib.hid (HS.out.below hb); clear hb)
      | (go_at_call 92; refine (more_st HS.out _ _ (by omega) (by simp [flat_len, Mi.wordS, Mi.placeS]; try (split <;> simp)) (by omega) (by omega) rfl (by simp [Value.oneCell'])).mono ?_; rintro e w' ⟨v1, rfl, hs⟩; have HS := Lib.hid hs; clear hs))
    go_ret
    exact ⟨_, rfl, HS.out.cast (by simp [Mi.secondS, Mi.wordS, flat, stp, Mi.readS, Mi.writeS, Mi.waitS, Mi.workS, Mi.unlessS, k0, k1] <;> (intros; omega))⟩
  · skip
    go_enter Tryz.func60, Tryz.ntmps60
    go_wp2_with (first
      | (go_at_call 54; refine (x_any _ _ h0 h1).mono ?_; rintro e w' ⟨rfl, rfl⟩)
      | (go_at_call 97; refine (y_any _ _ h0 h1).mono ?_; rintro e w' ⟨rfl, rfl⟩)
      | (go_at_call 89; refine (z_any _ _ h0 h1).mono ?_; rintro e w' ⟨rfl, rfl⟩)
      | (go_at_call 91; refine (q_any _ _ h0 h1).mono ?_; rintro e w' ⟨rfl, rfl⟩)
      | (go_at_call 93; refine (HS.out.call (by omega) (by simp [flat_len, Mi.wordS]) fun n ho hb hx => word_any base n _ _ _ ho hb hx).mono ?_; rintro e w' ⟨v1, rfl, hs⟩; have HS := Lib.hid hs; clear hs)
      | (go_at_call 106; refine (HS.out.call (by omega) (by simp) fun n ho hb hx => blocks_any c base n _ _ _ ho hb (by simpa using hx0) h0 h1 (by omega)).mono ?_; rintro e w' ⟨v1, rfl, hs⟩; have HS := Lib.hid hs; clear hs)
      | (go_at_call 107; refine (HS.out.call (by omega) (by simp) fun n ho hb hx => specials_any c base n _ _ _ ho hb (by simpa using hx0) h0 h1).mono ?_; rintro e w' ⟨v1, rfl, hs⟩; have HS := Lib.hid hs; clear hs)
      | (go_at_call 99; refine (read_step _ _ _).mono ?_; rintro e w' ⟨rfl, hb⟩; have HS := Lib.hid (HS.out.below hb); clear hb)
      | (go_at_call 100; refine (write_step _ _ _).mono ?_; rintro e w' ⟨rfl, hb⟩; have HS := Lib.hid (HS.out.below hb); clear hb)
      | (go_at_call 95; refine (wait_any _ _ _).mono ?_; rintro e w' ⟨rfl, hb⟩; have HS := Lib.hid (HS.out.below hb); clear hb)
      | (go_at_call 94; refine (work_any _ _).mono ?_; rintro e w' ⟨rfl, hb⟩; have HS := Lib.hid (HS.out.below hb); clear hb)
      | (go_at_call 101; refine (unless_any _ _).mono ?_; rintro e w' ⟨rfl, hb⟩; have HS := Lib.hid (HS.out.below hb); clear hb)
      | (go_at_call 92; refine (more_st HS.out _ _ (by omega) (by simp [flat_len, Mi.wordS, Mi.placeS]; try (split <;> simp)) (by omega) (by omega) rfl (by simp [Value.oneCell'])).mono ?_; rintro e w' ⟨v1, rfl, hs⟩; have HS := Lib.hid hs; clear hs))
    go_ret
    exact ⟨_, rfl, HS.out.cast (by simp [Mi.secondS, Mi.wordS, flat, stp, Mi.readS, Mi.writeS, Mi.waitS, Mi.workS, Mi.unlessS, k0, k1] <;> (intros; omega))⟩
  · skip
    go_enter Tryz.func60, Tryz.ntmps60
    go_wp2_with (first
      | (go_at_call 54; refine (x_any _ _ h0 h1).mono ?_; rintro e w' ⟨rfl, rfl⟩)
      | (go_at_call 97; refine (y_any _ _ h0 h1).mono ?_; rintro e w' ⟨rfl, rfl⟩)
      | (go_at_call 89; refine (z_any _ _ h0 h1).mono ?_; rintro e w' ⟨rfl, rfl⟩)
      | (go_at_call 91; refine (q_any _ _ h0 h1).mono ?_; rintro e w' ⟨rfl, rfl⟩)
      | (go_at_call 93; refine (HS.out.call (by omega) (by simp [flat_len, Mi.wordS]) fun n ho hb hx => word_any base n _ _ _ ho hb hx).mono ?_; rintro e w' ⟨v1, rfl, hs⟩; have HS := Lib.hid hs; clear hs)
      | (go_at_call 106; refine (HS.out.call (by omega) (by simp) fun n ho hb hx => blocks_any c base n _ _ _ ho hb (by simpa using hx0) h0 h1 (by omega)).mono ?_; rintro e w' ⟨v1, rfl, hs⟩; have HS := Lib.hid hs; clear hs)
      | (go_at_call 107; refine (HS.out.call (by omega) (by simp) fun n ho hb hx => specials_any c base n _ _ _ ho hb (by simpa using hx0) h0 h1).mono ?_; rintro e w' ⟨v1, rfl, hs⟩; have HS := Lib.hid hs; clear hs)
      | (go_at_call 99; refine (read_step _ _ _).mono ?_; rintro e w' ⟨rfl, hb⟩; have HS := Lib.hid (HS.out.below hb); clear hb)
      | (go_at_call 100; refine (write_step _ _ _).mono ?_; rintro e w' ⟨rfl, hb⟩; have HS := Lib.hid (HS.out.below hb); clear hb)
      | (go_at_call 95; refine (wait_any _ _ _).mono ?_; rintro e w' ⟨rfl, hb⟩; have HS := Lib.hid (HS.out.below hb); clear hb)
      | (go_at_call 94; refine (work_any _ _).mono ?_; rintro e w' ⟨rfl, hb⟩; have HS := Lib.hid (HS.out.below hb); clear hb)
      | (go_at_call 101; refine (unless_any _ _).mono ?_; rintro e w' ⟨rfl, hb⟩; have HS := Lib.hid (HS.out.below hb); clear hb)
      | (go_at_call 92; refine (more_st HS.out _ _ (by omega) (by simp [flat_len, Mi.wordS, Mi.placeS]; try (split <;> simp)) (by omega) (by omega) rfl (by simp [Value.oneCell'])).mono ?_; rintro e w' ⟨v1, rfl, hs⟩; have HS := Lib.hid hs; clear hs))
    go_ret
    exact ⟨_, rfl, HS.out.cast (by simp [Mi.secondS, Mi.wordS, flat, stp, Mi.readS, Mi.writeS, Mi.waitS, Mi.workS, Mi.unlessS, k0, k1] <;> (intros; omega))⟩
  · skip
    go_enter Tryz.func60, Tryz.ntmps60
    go_wp2_with (first
      | (go_at_call 54; refine (x_any _ _ h0 h1).mono ?_; rintro e w' ⟨rfl, rfl⟩)
      | (go_at_call 97; refine (y_any _ _ h0 h1).mono ?_; rintro e w' ⟨rfl, rfl⟩)
      | (go_at_call 89; refine (z_any _ _ h0 h1).mono ?_; rintro e w' ⟨rfl, rfl⟩)
      | (go_at_call 91; refine (q_any _ _ h0 h1).mono ?_; rintro e w' ⟨rfl, rfl⟩)
      | (go_at_call 93; refine (HS.out.call (by omega) (by simp [flat_len, Mi.wordS]) fun n ho hb hx => word_any base n _ _ _ ho hb hx).mono ?_; rintro e w' ⟨v1, rfl, hs⟩; have HS := Lib.hid hs; clear hs)
      | (go_at_call 106; refine (HS.out.call (by omega) (by simp) fun n ho hb hx => blocks_any c base n _ _ _ ho hb (by simpa using hx0) h0 h1 (by omega)).mono ?_; rintro e w' ⟨v1, rfl, hs⟩; have HS := Lib.hid hs; clear hs)
      | (go_at_call 107; refine (HS.out.call (by omega) (by simp) fun n ho hb hx => specials_any c base n _ _ _ ho hb (by simpa using hx0) h0 h1).mono ?_; rintro e w' ⟨v1, rfl, hs⟩; have HS := Lib.hid hs; clear hs)
      | (go_at_call 99; refine (read_step _ _ _).mono ?_; rintro e w' ⟨rfl, hb⟩; have HS := Lib.hid (HS.out.below hb); clear hb)
      | (go_at_call 100; refine (write_step _ _ _).mono ?_; rintro e w' ⟨rfl, hb⟩; have HS := Lib.hid (HS.out.below hb); clear hb)
      | (go_at_call 95; refine (wait_any _ _ _).mono ?_; rintro e w' ⟨rfl, hb⟩; have HS := Lib.hid (HS.out.below hb); clear hb)
      | (go_at_call 94; refine (work_any _ _).mono ?_; rintro e w' ⟨rfl, hb⟩; have HS := Lib.hid (HS.out.below hb); clear hb)
      | (go_at_call 101; refine (unless_any _ _).mono ?_; rintro e w' ⟨rfl, hb⟩; have HS := Lib.hid (HS.out.below hb); clear hb)
      | (go_at_call 92; refine (more_st HS.out _ _ (by omega) (by simp [flat_len, Mi.wordS, Mi.placeS]; try (split <;> simp)) (by omega) (by omega) rfl (by simp [Value.oneCell'])).mono ?_; rintro e w' ⟨v1, rfl, hs⟩; have HS := Lib.hid hs; clear hs))
    go_ret
    exact ⟨_, rfl, HS.out.cast (by simp [Mi.secondS, Mi.wordS, flat, stp, Mi.readS, Mi.writeS, Mi.waitS, Mi.workS, Mi.unlessS, k0, k1, k2] <;> (intros; omega))⟩
  · skip
    go_enter Tryz.func60, Tryz.ntmps60
    go_wp2_with (first
      | (go_at_call 54; refine (x_any _ _ h0 h1).mono ?_; rintro e w' ⟨rfl, rfl⟩)
      | (go_at_call 97; refine (y_any _ _ h0 h1).mono ?_; rintro e w' ⟨rfl, rfl⟩)
      | (go_at_call 89; refine (z_any _ _ h0 h1).mono ?_; rintro e w' ⟨rfl, rfl⟩)
      | (go_at_call 91; refine (q_any _ _ h0 h1).mono ?_; rintro e w' ⟨rfl, rfl⟩)
      | (go_at_call 93; refine (HS.out.call (by omega) (by simp [flat_len, Mi.wordS]) fun n ho hb hx => word_any base n _ _ _ ho hb hx).mono ?_; rintro e w' ⟨v1, rfl, hs⟩; have HS := Lib.hid hs; clear hs)
      | (go_at_call 106; refine (HS.out.call (by omega) (by simp) fun n ho hb hx => blocks_any c base n _ _ _ ho hb (by simpa using hx0) h0 h1 (by omega)).mono ?_; rintro e w' ⟨v1, rfl, hs⟩; have HS := Lib.hid hs; clear hs)
      | (go_at_call 107; refine (HS.out.call (by omega) (by simp) fun n ho hb hx => specials_any c base n _ _ _ ho hb (by simpa using hx0) h0 h1).mono ?_; rintro e w' ⟨v1, rfl, hs⟩; have HS := Lib.hid hs; clear hs)
      | (go_at_call 99; refine (read_step _ _ _).mono ?_; rintro e w' ⟨rfl, hb⟩; have HS := Lib.hid (HS.out.below hb); clear hb)
      | (go_at_call 100; refine (write_step _ _ _).mono ?_; rintro e w' ⟨rfl, hb⟩; have HS := Lib.hid (HS.out.below hb); clear hb)
      | (go_at_call 95; refine (wait_any _ _ _).mono ?_; rintro e w' ⟨rfl, hb⟩; have HS := Lib.hid (HS.out.below hb); clear hb)
      | (go_at_call 94; refine (work_any _ _).mono ?_; rintro e w' ⟨rfl, hb⟩; have HS := Lib.hid (HS.out.below hb); clear hb)
      | (go_at_call 101; refine (unless_any _ _).mono ?_; rintro e w' ⟨rfl, hb⟩; have HS := Lib.hid (HS.out.below hb); clear hb)
      | (go_at_call 92; refine (more_st HS.out _ _ (by omega) (by simp [flat_len, Mi.wordS, Mi.placeS]; try (split <;> simp)) (by omega) (by omega) rfl (by simp [Value.oneCell'])).mono ?_; rintro e w' ⟨v1, rfl, hs⟩; have HS := Lib.hid hs; clear hs))
    go_ret
    exact ⟨_, rfl, HS.out.cast (by simp [Mi.secondS, Mi.wordS, flat, stp, Mi.readS, Mi.writeS, Mi.waitS, Mi.workS, Mi.unlessS, k0, k1, k2] <;> (intros; omega))⟩
end Go.Proofs.YtbhpmnhlmeglcaaGreat
