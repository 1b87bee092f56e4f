/- Package micro: the walks, as gen_micro.py prints them. -/
import Derived.Test.YtbhpmnhlmeglcaaGreatTMicD
namespace Go.Proofs.YtbhpmnhlmeglcaaGreat
set_option linter.unusedSimpArgs false
set_option linter.unusedVariables false
open Go.RowKit

set_option maxRecDepth 100000 in
set_option maxHeartbeats 4000000 in
theorem last_any (c : Int) (base n : Nat) (v : Value) (xs : List Value) (w : World) (ho : w.ownsRow base 65 4 v n xs) (hb : base ≤ w.heap.size) (hx0 : xs.length ≤ 4000) (h0 : 0 ≤ c) (h1 : c ≤ 255) :
    Calls Tryz.prog 58 #[v, .int .u8 c] w (Next_ base w v xs (flat (Mi.lastS c))) := by
  have HS := Lib.hid (St.refl ho hb)
  clear ho hb
  have key : (c % 8 = 0) ∨ (c % 8 = 1 ∧ c / 8 % 2 = 0) ∨ (c % 8 = 1 ∧ c / 8 % 2 = 1) ∨ (c % 8 = 2) ∨ (c % 8 = 3) ∨ (c % 8 = 4) ∨ (c % 8 = 5 ∧ c / 8 % 2 = 0) ∨ (c % 8 = 5 ∧ c / 8 % 2 = 1 ∧ c / 16 % 4 = 0) ∨ (c % 8 = 5 ∧ c / 8 % 2 = 1 ∧ c / 16 % 4 ≠ 0) ∨ (c % 8 = 6) ∨ (c % 8 = 7) := by omega
  rcases key with k0 | ⟨k0, k1⟩ | ⟨k0, k1⟩ | k0 | k0 | k0 | ⟨k0, k1⟩ | ⟨k0, k1, k2⟩ | ⟨k0, k1, k2⟩ | k0 | k0
  · skip
    go_enter Tryz.func58, Tryz.ntmps58
    go_wp2_with (first
      | (go_at_call 89; refine (z_any _ _ h0 h1).mono ?_; rintro e w' ⟨rfl, rfl⟩)
      | (go_at_call 91; refine (q_any _ _ h0 h1).mono ?_; rintro e w' ⟨rfl, rfl⟩)
      | (go_at_call 105; refine (p_any _ _ h0 h1).mono ?_; rintro e w' ⟨rfl, rfl⟩)
      | (go_at_call 93; refine (HS.out.call (by omega) (by simp [flat_len, Mi.wordS]) fun n ho hb hx => word_any base n _ _ _ ho hb hx).mono ?_; rintro e w' ⟨v1, rfl, hs⟩; have HS := Lib.hid hs; clear hs)
      | (go_at_call 104; refine (HS.out.call (by omega) (by simp [flat_len, Mi.wordS]) fun n ho hb hx => call_any base n _ _ _ ho hb hx).mono ?_; rintro e w' ⟨v1, rfl, hs⟩; have HS := Lib.hid hs; clear hs)
      | (go_at_call 102; refine (HS.out.call (by omega) (by simp) fun n ho hb hx => returns_any c base n _ _ _ ho hb (by simpa using hx0) h0 h1).mono ?_; rintro e w' ⟨v1, rfl, hs⟩; have HS := Lib.hid hs; clear hs)
      | (go_at_call 103; refine (HS.out.call (by omega) (by simp) fun n ho hb hx => ports_any c base n _ _ _ ho hb (by simpa using hx0) h0 h1).mono ?_; rintro e w' ⟨v1, rfl, hs⟩; have HS := Lib.hid hs; clear hs)
      | (go_at_call 99; refine (read_step _ _ _).mono ?_; rintro e w' ⟨rfl, hb⟩; have HS := Lib.hid (HS.out.below hb); clear hb)
      | (go_at_call 100; refine (write_step _ _ _).mono ?_; rintro e w' ⟨rfl, hb⟩; have HS := Lib.hid (HS.out.below hb); clear hb)
      | (go_at_call 95; refine (wait_any _ _ _).mono ?_; rintro e w' ⟨rfl, hb⟩; have HS := Lib.hid (HS.out.below hb); clear hb)
      | (go_at_call 94; refine (work_any _ _).mono ?_; rintro e w' ⟨rfl, hb⟩; have HS := Lib.hid (HS.out.below hb); clear hb)
      | (go_at_call 101; refine (unless_any _ _).mono ?_; rintro e w' ⟨rfl, hb⟩; have HS := Lib.hid (HS.out.below hb); clear hb)
      | (go_at_call 92; refine (more_st HS.out _ _ (by omega) (by simp [flat_len, Mi.wordS, Mi.placeS]; try (split <;> simp)) (by omega) (by omega) rfl (by simp [Value.oneCell'])).mono ?_; rintro e w' ⟨v1, rfl, hs⟩; have HS := Lib.hid hs; clear hs))
    go_ret
    exact ⟨_, rfl, HS.out.cast (by simp [Mi.lastS, Mi.wordS, Mi.callS, flat, stp, Mi.readS, Mi.writeS, Mi.waitS, Mi.workS, Mi.unlessS, k0])⟩
  · skip
    go_enter Tryz.func58, Tryz.ntmps58
    go_wp2_with (first
      | (go_at_call 89; refine (z_any _ _ h0 h1).mono ?_; rintro e w' ⟨rfl, rfl⟩)
      | (go_at_call 91; refine (q_any _ _ h0 h1).mono ?_; rintro e w' ⟨rfl, rfl⟩)
      | (go_at_call 105; refine (p_any _ _ h0 h1).mono ?_; rintro e w' ⟨rfl, rfl⟩)
      | (go_at_call 93; refine (HS.out.call (by omega) (by simp [flat_len, Mi.wordS]) fun n ho hb hx => word_any base n _ _ _ ho hb hx).mono ?_; rintro e w' ⟨v1, rfl, hs⟩; have HS := Lib.hid hs; clear hs)
      | (go_at_call 104; refine (HS.out.call (by omega) (by simp [flat_len, Mi.wordS]) fun n ho hb hx => call_any base n _ _ _ ho hb hx).mono ?_; rintro e w' ⟨v1, rfl, hs⟩; have HS := Lib.hid hs; clear hs)
      | (go_at_call 102; refine (HS.out.call (by omega) (by simp) fun n ho hb hx => returns_any c base n _ _ _ ho hb (by simpa using hx0) h0 h1).mono ?_; rintro e w' ⟨v1, rfl, hs⟩; have HS := Lib.hid hs; clear hs)
      | (go_at_call 103; refine (HS.out.call (by omega) (by simp) fun n ho hb hx => ports_any c base n _ _ _ ho hb (by simpa using hx0) h0 h1).mono ?_; rintro e w' ⟨v1, rfl, hs⟩; have HS := Lib.hid hs; clear hs)
      | (go_at_call 99; refine (read_step _ _ _).mono ?_; rintro e w' ⟨rfl, hb⟩; have HS := Lib.hid (HS.out.below hb); clear hb)
      | (go_at_call 100; refine (write_step _ _ _).mono ?_; rintro e w' ⟨rfl, hb⟩; have HS := Lib.hid (HS.out.below hb); clear hb)
      | (go_at_call 95; refine (wait_any _ _ _).mono ?_; rintro e w' ⟨rfl, hb⟩; have HS := Lib.hid (HS.out.below hb); clear hb)
      | (go_at_call 94; refine (work_any _ _).mono ?_; rintro e w' ⟨rfl, hb⟩; have HS := Lib.hid (HS.out.below hb); clear hb)
      | (go_at_call 101; refine (unless_any _ _).mono ?_; rintro e w' ⟨rfl, hb⟩; have HS := Lib.hid (HS.out.below hb); clear hb)
      | (go_at_call 92; refine (more_st HS.out _ _ (by omega) (by simp [flat_len, Mi.wordS, Mi.placeS]; try (split <;> simp)) (by omega) (by omega) rfl (by simp [Value.oneCell'])).mono ?_; rintro e w' ⟨v1, rfl, hs⟩; have HS := Lib.hid hs; clear hs))
    go_ret
    exact ⟨_, rfl, HS.out.cast (by simp [Mi.lastS, Mi.wordS, Mi.callS, flat, stp, Mi.readS, Mi.writeS, Mi.waitS, Mi.workS, Mi.unlessS, k0, k1])⟩
  · skip
    go_enter Tryz.func58, Tryz.ntmps58
    go_wp2_with (first
      | (go_at_call 89; refine (z_any _ _ h0 h1).mono ?_; rintro e w' ⟨rfl, rfl⟩)
      | (go_at_call 91; refine (q_any _ _ h0 h1).mono ?_; rintro e w' ⟨rfl, rfl⟩)
      | (go_at_call 105; refine (p_any _ _ h0 h1).mono ?_; rintro e w' ⟨rfl, rfl⟩)
      | (go_at_call 93; refine (HS.out.call (by omega) (by simp [flat_len, Mi.wordS]) fun n ho hb hx => word_any base n _ _ _ ho hb hx).mono ?_; rintro e w' ⟨v1, rfl, hs⟩; have HS := Lib.hid hs; clear hs)
      | (go_at_call 104; refine (HS.out.call (by omega) (by simp [flat_len, Mi.wordS]) fun n ho hb hx => call_any base n _ _ _ ho hb hx).mono ?_; rintro e w' ⟨v1, rfl, hs⟩; have HS := Lib.hid hs; clear hs)
      | (go_at_call 102; refine (HS.out.call (by omega) (by simp) fun n ho hb hx => returns_any c base n _ _ _ ho hb (by simpa using hx0) h0 h1).mono ?_; rintro e w' ⟨v1, rfl, hs⟩; have HS := Lib.hid hs; clear hs)
      | (go_at_call 103; refine (HS.out.call (by omega) (by simp) fun n ho hb hx => ports_any c base n _ _ _ ho hb (by simpa using hx0) h0 h1).mono ?_; rintro e w' ⟨v1, rfl, hs⟩; have HS := Lib.hid hs; clear hs)
      | (go_at_call 99; refine (read_step _ _ _).mono ?_; rintro e w' ⟨rfl, hb⟩; have HS := Lib.hid (HS.out.below hb); clear hb)
      | (go_at_call 100; refine (write_step _ _ _).mono ?_; rintro e w' ⟨rfl, hb⟩; have HS := Lib.hid (HS.out.below hb); clear hb)
      | (go_at_call 95; refine (wait_any _ _ _).mono ?_; rintro e w' ⟨rfl, hb⟩; have HS := Lib.hid (HS.out.below hb); clear hb)
      | (go_at_call 94; refine (work_any _ _).mono ?_; rintro e w' ⟨rfl, hb⟩; have HS := Lib.hid (HS.out.below hb); clear hb)
      | (go_at_call 101; refine (unless_any _ _).mono ?_; rintro e w' ⟨rfl, hb⟩; have HS := Lib.hid (HS.out.below hb); clear hb)
      | (go_at_call 92; refine (more_st HS.out _ _ (by omega) (by simp [flat_len, Mi.wordS, Mi.placeS]; try (split <;> simp)) (by omega) (by omega) rfl (by simp [Value.oneCell'])).mono ?_; rintro e w' ⟨v1, rfl, hs⟩; have HS := Lib.hid hs; clear hs))
    go_ret
    exact ⟨_, rfl, HS.out.cast (by simp [Mi.lastS, Mi.wordS, Mi.callS, flat, stp, Mi.readS, Mi.writeS, Mi.waitS, Mi.workS, Mi.unlessS, k0, k1])⟩
  · skip
    go_enter Tryz.func58, Tryz.ntmps58
    go_wp2_with (first
      | (go_at_call 89; refine (z_any _ _ h0 h1).mono ?_; rintro e w' ⟨rfl, rfl⟩)
      | (go_at_call 91; refine (q_any _ _ h0 h1).mono ?_; rintro e w' ⟨rfl, rfl⟩)
      | (go_at_call 105; refine (p_any _ _ h0 h1).mono ?_; rintro e w' ⟨rfl, rfl⟩)
      | (go_at_call 93; refine (HS.out.call (by omega) (by simp [flat_len, Mi.wordS]) fun n ho hb hx => word_any base n _ _ _ ho hb hx).mono ?_; rintro e w' ⟨v1, rfl, hs⟩; have HS := Lib.hid hs; clear hs)
      | (go_at_call 104; refine (HS.out.call (by omega) (by simp [flat_len, Mi.wordS]) fun n ho hb hx => call_any base n _ _ _ ho hb hx).mono ?_; rintro e w' ⟨v1, rfl, hs⟩; have HS := Lib.hid hs; clear hs)
      | (go_at_call 102; refine (HS.out.call (by omega) (by simp) fun n ho hb hx => returns_any c base n _ _ _ ho hb (by simpa using hx0) h0 h1).mono ?_; rintro e w' ⟨v1, rfl, hs⟩; have HS := Lib.hid hs; clear hs)
      | (go_at_call 103; refine (HS.out.call (by omega) (by simp) fun n ho hb hx => ports_any c base n _ _ _ ho hb (by simpa using hx0) h0 h1).mono ?_; rintro e w' ⟨v1, rfl, hs⟩; have HS := Lib.hid hs; clear hs)
      | (go_at_call 99; refine (read_step _ _ _).mono ?_; rintro e w' ⟨rfl, hb⟩; have HS := Lib.hid (HS.out.below hb); clear hb)
      | (go_at_call 100; refine (write_step _ _ _).mono ?_; rintro e w' ⟨rfl, hb⟩; have HS := Lib.hid (HS.out.below hb); clear hb)
      | (go_at_call 95; refine (wait_any _ _ _).mono ?_; rintro e w' ⟨rfl, hb⟩; have HS := Lib.hid (HS.out.below hb); clear hb)
      | (go_at_call 94; refine (work_any _ _).mono ?_; rintro e w' ⟨rfl, hb⟩; have HS := Lib.hid (HS.out.below hb); clear hb)
      | (go_at_call 101; refine (unless_any _ _).mono ?_; rintro e w' ⟨rfl, hb⟩; have HS := Lib.hid (HS.out.below hb); clear hb)
      | (go_at_call 92; refine (more_st HS.out _ _ (by omega) (by simp [flat_len, Mi.wordS, Mi.placeS]; try (split <;> simp)) (by omega) (by omega) rfl (by simp [Value.oneCell'])).mono ?_; rintro e w' ⟨v1, rfl, hs⟩; have HS := Lib.hid hs; clear hs))
    go_ret
    exact ⟨_, rfl, HS.out.cast (by simp [Mi.lastS, Mi.wordS, Mi.callS, flat, stp, Mi.readS, Mi.writeS, Mi.waitS, Mi.workS, Mi.unlessS, k0])⟩
  · skip
    go_enter Tryz.func58, Tryz.ntmps58
    go_wp2_with (first
      | (go_at_call 89; refine (z_any _ _ h0 h1).mono ?_; rintro e w' ⟨rfl, rfl⟩)
      | (go_at_call 91; refine (q_any _ _ h0 h1).mono ?_; rintro e w' ⟨rfl, rfl⟩)
      | (go_at_call 105; refine (p_any _ _ h0 h1).mono ?_; rintro e w' ⟨rfl, rfl⟩)
      | (go_at_call 93; refine (HS.out.call (by omega) (by simp [flat_len, Mi.wordS]) fun n ho hb hx => word_any base n _ _ _ ho hb hx).mono ?_; rintro e w' ⟨v1, rfl, hs⟩; have HS := Lib.hid hs; clear hs)
      | (go_at_call 104; refine (HS.out.call (by omega) (by simp [flat_len, Mi.wordS]) fun n ho hb hx => call_any base n _ _ _ ho hb hx).mono ?_; rintro e w' ⟨v1, rfl, hs⟩; have HS := Lib.hid hs; clear hs)
      | (go_at_call 102; refine (HS.out.call (by omega) (by simp) fun n ho hb hx => returns_any c base n _ _ _ ho hb (by simpa using hx0) h0 h1).mono ?_; rintro e w' ⟨v1, rfl, hs⟩; have HS := Lib.hid hs; clear hs)
      | (go_at_call 103; refine (HS.out.call (by omega) (by simp) fun n ho hb hx => ports_any c base n _ _ _ ho hb (by simpa using hx0) h0 h1).mono ?_; rintro e w' ⟨v1, rfl, hs⟩; have HS := Lib.hid hs; clear hs)
      | (go_at_call 99; refine (read_step _ _ _).mono ?_; rintro e w' ⟨rfl, hb⟩; have HS := Lib.hid (HS.out.below hb); clear hb)
      | (go_at_call 100; refine (write_step _ _ _).mono ?_; rintro e w' ⟨rfl, hb⟩; have HS := Lib.hid (HS.out.below hb); clear hb)
      | (go_at_call 95; refine (wait_any _ _ _).mono ?_; rintro e w' ⟨rfl, hb⟩; have HS := Lib.hid (HS.out.below hb); clear hb)
      | (go_at_call 94; refine (work_any _ _).mono ?_; rintro e w' ⟨rfl, hb⟩; have HS := Lib.hid (HS.out.below hb); clear hb)
      | (go_at_call 101; refine (unless_any _ _).mono ?_; rintro e w' ⟨rfl, hb⟩; have HS := Lib.hid (HS.out.below hb); clear hb)
      | (go_at_call 92; refine (more_st HS.out _ _ (by omega) (by simp [flat_len, Mi.wordS, Mi.placeS]; try (split <;> simp)) (by omega) (by omega) rfl (by simp [Value.oneCell'])).mono ?_; rintro e w' ⟨v1, rfl, hs⟩; have HS := Lib.hid hs; clear hs))
    go_ret
    exact ⟨_, rfl, HS.out.cast (by simp [Mi.lastS, Mi.wordS, Mi.callS, flat, stp, Mi.readS, Mi.writeS, Mi.waitS, Mi.workS, Mi.unlessS, k0])⟩
  · skip
    go_enter Tryz.func58, Tryz.ntmps58
    go_wp2_with (first
      | (go_at_call 89; refine (z_any _ _ h0 h1).mono ?_; rintro e w' ⟨rfl, rfl⟩)
      | (go_at_call 91; refine (q_any _ _ h0 h1).mono ?_; rintro e w' ⟨rfl, rfl⟩)
      | (go_at_call 105; refine (p_any _ _ h0 h1).mono ?_; rintro e w' ⟨rfl, rfl⟩)
      | (go_at_call 93; refine (HS.out.call (by omega) (by simp [flat_len, Mi.wordS]) fun n ho hb hx => word_any base n _ _ _ ho hb hx).mono ?_; rintro e w' ⟨v1, rfl, hs⟩; have HS := Lib.hid hs; clear hs)
      | (go_at_call 104; refine (HS.out.call (by omega) (by simp [flat_len, Mi.wordS]) fun n ho hb hx => call_any base n _ _ _ ho hb hx).mono ?_; rintro e w' ⟨v1, rfl, hs⟩; have HS := Lib.hid hs; clear hs)
      | (go_at_call 102; refine (HS.out.call (by omega) (by simp) fun n ho hb hx => returns_any c base n _ _ _ ho hb (by simpa using hx0) h0 h1).mono ?_; rintro e w' ⟨v1, rfl, hs⟩; have HS := Lib.hid hs; clear hs)
      | (go_at_call 103; refine (HS.out.call (by omega) (by simp) fun n ho hb hx => ports_any c base n _ _ _ ho hb (by simpa using hx0) h0 h1).mono ?_; rintro e w' ⟨v1, rfl, hs⟩; have HS := Lib.hid hs; clear hs)
      | (go_at_call 99; refine (read_step _ _ _).mono ?_; rintro e w' ⟨rfl, hb⟩; have HS := Lib.hid (HS.out.below hb); clear hb)
      | (go_at_call 100; refine (write_step _ _ _).mono ?_; rintro e w' ⟨rfl, hb⟩; have HS := Lib.hid (HS.out.below hb); clear hb)
      | (go_at_call 95; refine (wait_any _ _ _).mono ?_; rintro e w' ⟨rfl, hb⟩; have HS := Lib.hid (HS.out.below hb); clear hb)
      | (go_at_call 94; refine (work_any _ _).mono ?_; rintro e w' ⟨rfl, hb⟩; have HS := Lib.hid (HS.out.below hb); clear hb)
      | (go_at_call 101; refine (unless_any _ _).mono ?_; rintro e w' ⟨rfl, hb⟩; have HS := Lib.hid (HS.out.below hb); clear hb)
      | (go_at_call 92; refine (more_st HS.out _ _ (by omega) (by simp [flat_len, Mi.wordS, Mi.placeS]; try (split <;> simp)) (by omega) (by omega) rfl (by simp [Value.oneCell'])).mono ?_; rintro e w' ⟨v1, rfl, hs⟩; have HS := Lib.hid hs; clear hs))
    go_ret
    exact ⟨_, rfl, HS.out.cast (by simp [Mi.lastS, Mi.wordS, Mi.callS, flat, stp, Mi.readS, Mi.writeS, Mi.waitS, Mi.workS, Mi.unlessS, k0])⟩
  · skip
    go_enter Tryz.func58, Tryz.ntmps58
    go_wp2_with (first
      | (go_at_call 89; refine (z_any _ _ h0 h1).mono ?_; rintro e w' ⟨rfl, rfl⟩)
      | (go_at_call 91; refine (q_any _ _ h0 h1).mono ?_; rintro e w' ⟨rfl, rfl⟩)
      | (go_at_call 105; refine (p_any _ _ h0 h1).mono ?_; rintro e w' ⟨rfl, rfl⟩)
      | (go_at_call 93; refine (HS.out.call (by omega) (by simp [flat_len, Mi.wordS]) fun n ho hb hx => word_any base n _ _ _ ho hb hx).mono ?_; rintro e w' ⟨v1, rfl, hs⟩; have HS := Lib.hid hs; clear hs)
      | (go_at_call 104; refine (HS.out.call (by omega) (by simp [flat_len, Mi.wordS]) fun n ho hb hx => call_any base n _ _ _ ho hb hx).mono ?_; rintro e w' ⟨v1, rfl, hs⟩; have HS := Lib.hid hs; clear hs)
      | (go_at_call 102; refine (HS.out.call (by omega) (by simp) fun n ho hb hx => returns_any c base n _ _ _ ho hb (by simpa using hx0) h0 h1).mono ?_; rintro e w' ⟨v1, rfl, hs⟩; have HS := Lib.hid hs; clear hs)
      | (go_at_call 103; refine (HS.out.call (by omega) (by simp) fun n ho hb hx => ports_any c base n _ _ _ ho hb (by simpa using hx0) h0 h1).mono ?_; rintro e w' ⟨v1, rfl, hs⟩; have HS := Lib.hid hs; clear hs)
      | (go_at_call 99; refine (read_step _ _ _).mono ?_; rintro e w' ⟨rfl, hb⟩; have HS := Lib.hid (HS.out.below hb); clear hb)
      | (go_at_call 100; refine (write_step _ _ _).mono ?_; rintro e w' ⟨rfl, hb⟩; have HS := Lib.hid (HS.out.below hb); clear hb)
      | (go_at_call 95; refine (wait_any _ _ _).mono ?_; rintro e w' ⟨rfl, hb⟩; have HS := Lib.hid (HS.out.below hb); clear hb)
      | (go_at_call 94; refine (work_any _ _).mono ?_; rintro e w' ⟨rfl, hb⟩; have HS := Lib.hid (HS.out.below hb); clear hb)
      | (go_at_call 101; refine (unless_any _ _).mono ?_; rintro e w' ⟨rfl, hb⟩; have HS := Lib.hid (HS.out.below hb); clear hb)
      | (go_at_call 92; refine (more_st HS.out _ _ (by omega) (by simp [flat_len, Mi.wordS, Mi.placeS]; try (split <;> simp)) (by omega) (by omega) rfl (by simp [Value.oneCell'])).mono ?_; rintro e w' ⟨v1, rfl, hs⟩; have HS := Lib.hid hs; clear hs))
    go_ret
    exact ⟨_, rfl, HS.out.cast (by simp [Mi.lastS, Mi.wordS, Mi.callS, flat, stp, Mi.readS, Mi.writeS, Mi.waitS, Mi.workS, Mi.unlessS, k0, k1])⟩
  · skip
    go_enter Tryz.func58, Tryz.ntmps58
    go_wp2_with (first
      | (go_at_call 89; refine (z_any _ _ h0 h1).mono ?_; rintro e w' ⟨rfl, rfl⟩)
      | (go_at_call 91; refine (q_any _ _ h0 h1).mono ?_; rintro e w' ⟨rfl, rfl⟩)
      | (go_at_call 105; refine (p_any _ _ h0 h1).mono ?_; rintro e w' ⟨rfl, rfl⟩)
      | (go_at_call 93; refine (HS.out.call (by omega) (by simp [flat_len, Mi.wordS]) fun n ho hb hx => word_any base n _ _ _ ho hb hx).mono ?_; rintro e w' ⟨v1, rfl, hs⟩; have HS := Lib.hid hs; clear hs)
      | (go_at_call 104; refine (HS.out.call (by omega) (by simp [flat_len, Mi.wordS]) fun n ho hb hx => call_any base n _ _ _ ho hb hx).mono ?_; rintro e w' ⟨v1, rfl, hs⟩; have HS := Lib.hid hs; clear hs)
      | (go_at_call 102; refine (HS.out.call (by omega) (by simp) fun n ho hb hx => returns_any c base n _ _ _ ho hb (by simpa using hx0) h0 h1).mono ?_; rintro e w' ⟨v1, rfl, hs⟩; have HS := Lib.hid hs; clear hs)
      | (go_at_call 103; refine (HS.out.call (by omega) (by simp) fun n ho hb hx => ports_any c base n _ _ _ ho hb (by simpa using hx0) h0 h1).mono ?_; rintro e w' ⟨v1, rfl, hs⟩; have HS := Lib.hid hs; clear hs)
      | (go_at_call 99; refine (read_step _ _ _).mono ?_; rintro e w' ⟨rfl, hb⟩; have HS := Lib.hid (HS.out.below hb); clear hb)
      | (go_at_call 100; refine (write_step _ _ _).mono ?_; rintro e w' ⟨rfl, hb⟩; have HS := Lib.hid (HS.out.below hb); clear hb)
      | (go_at_call 95; refine (wait_any _ _ _).mono ?_; rintro e w' ⟨rfl, hb⟩; have HS := Lib.hid (HS.out.below hb); clear hb)
      | (go_at_call 94; refine (work_any _ _).mono ?_; rintro e w' ⟨rfl, hb⟩; have HS := Lib.hid (HS.out.below hb); clear hb)
      | (go_at_call 101; refine (unless_any _ _).mono ?_; rintro e w' ⟨rfl, hb⟩; have HS := Lib.hid (HS.out.below hb); clear hb)
      | (go_at_call 92; refine (more_st HS.out _ _ (by omega) (by simp [flat_len, Mi.wordS, Mi.placeS]; try (split <;> simp)) (by omega) (by omega) rfl (by simp [Value.oneCell'])).mono ?_; rintro e w' ⟨v1, rfl, hs⟩; have HS := Lib.hid hs; clear hs))
    go_ret
    exact ⟨_, rfl, HS.out.cast (by simp [Mi.lastS, Mi.wordS, Mi.callS, flat, stp, Mi.readS, Mi.writeS, Mi.waitS, Mi.workS, Mi.unlessS, k0, k1, k2])⟩
  · skip
    have b2 : (c / 16 % 4 == 0) = false := by simpa using k2
    have d2 : (c / 16 % 4 != 0) = true := by simpa using k2
    go_enter Tryz.func58, Tryz.ntmps58
    go_wp2_with (first
      | (go_at_call 89; refine (z_any _ _ h0 h1).mono ?_; rintro e w' ⟨rfl, rfl⟩)
      | (go_at_call 91; refine (q_any _ _ h0 h1).mono ?_; rintro e w' ⟨rfl, rfl⟩)
      | (go_at_call 105; refine (p_any _ _ h0 h1).mono ?_; rintro e w' ⟨rfl, rfl⟩)
      | (go_at_call 93; refine (HS.out.call (by omega) (by simp [flat_len, Mi.wordS]) fun n ho hb hx => word_any base n _ _ _ ho hb hx).mono ?_; rintro e w' ⟨v1, rfl, hs⟩; have HS := Lib.hid hs; clear hs)
      | (go_at_call 104; refine (HS.out.call (by omega) (by simp [flat_len, Mi.wordS]) fun n ho hb hx => call_any base n _ _ _ ho hb hx).mono ?_; rintro e w' ⟨v1, rfl, hs⟩; have HS := Lib.hid hs; clear hs)
      | (go_at_call 102; refine (HS.out.call (by omega) (by simp) fun n ho hb hx => returns_any c base n _ _ _ ho hb (by simpa using hx0) h0 h1).mono ?_; rintro e w' ⟨v1, rfl, hs⟩; have HS := Lib.hid hs; clear hs)
      | (go_at_call 103; refine (HS.out.call (by omega) (by simp) fun n ho hb hx => ports_any c base n _ _ _ ho hb (by simpa using hx0) h0 h1).mono ?_; rintro e w' ⟨v1, rfl, hs⟩; have HS := Lib.hid hs; clear hs)
      | (go_at_call 99; refine (read_step _ _ _).mono ?_; rintro e w' ⟨rfl, hb⟩; have HS := Lib.hid (HS.out.below hb); clear hb)
      | (go_at_call 100; refine (write_step _ _ _).mono ?_; rintro e w' ⟨rfl, hb⟩; have HS := Lib.hid (HS.out.below hb); clear hb)
      | (go_at_call 95; refine (wait_any _ _ _).mono ?_; rintro e w' ⟨rfl, hb⟩; have HS := Lib.hid (HS.out.below hb); clear hb)
      | (go_at_call 94; refine (work_any _ _).mono ?_; rintro e w' ⟨rfl, hb⟩; have HS := Lib.hid (HS.out.below hb); clear hb)
      | (go_at_call 101; refine (unless_any _ _).mono ?_; rintro e w' ⟨rfl, hb⟩; have HS := Lib.hid (HS.out.below hb); clear hb)
      | (go_at_call 92; refine (more_st HS.out _ _ (by omega) (by simp [flat_len, Mi.wordS, Mi.placeS]; try (split <;> simp)) (by omega) (by omega) rfl (by simp [Value.oneCell'])).mono ?_; rintro e w' ⟨v1, rfl, hs⟩; have HS := Lib.hid hs; clear hs))
    go_ret
    exact ⟨_, rfl, HS.out.cast (by simp [Mi.lastS, Mi.wordS, Mi.callS, flat, stp, Mi.readS, Mi.writeS, Mi.waitS, Mi.workS, Mi.unlessS, k0, k1, k2])⟩
  · skip
    go_enter Tryz.func58, Tryz.ntmps58
    go_wp2_with (first
      | (go_at_call 89; refine (z_any _ _ h0 h1).mono ?_; rintro e w' ⟨rfl, rfl⟩)
      | (go_at_call 91; refine (q_any _ _ h0 h1).mono ?_; rintro e w' ⟨rfl, rfl⟩)
      | (go_at_call 105; refine (p_any _ _ h0 h1).mono ?_; rintro e w' ⟨rfl, rfl⟩)
      | (go_at_call 93; refine (HS.out.call (by omega) (by simp [flat_len, Mi.wordS]) fun n ho hb hx => word_any base n _ _ _ ho hb hx).mono ?_; rintro e w' ⟨v1, rfl, hs⟩; have HS := Lib.hid hs; clear hs)
      | (go_at_call 104; refine (HS.out.call (by omega) (by simp [flat_len, Mi.wordS]) fun n ho hb hx => call_any base n _ _ _ ho hb hx).mono ?_; rintro e w' ⟨v1, rfl, hs⟩; have HS := Lib.hid hs; clear hs)
      | (go_at_call 102; refine (HS.out.call (by omega) (by simp) fun n ho hb hx => returns_any c base n _ _ _ ho hb (by simpa using hx0) h0 h1).mono ?_; rintro e w' ⟨v1, rfl, hs⟩; have HS := Lib.hid hs; clear hs)
      | (go_at_call 103; refine (HS.out.call (by omega) (by simp) fun n ho hb hx => ports_any c base n _ _ _ ho hb (by simpa using hx0) h0 h1).mono ?_; rintro e w' ⟨v1, rfl, hs⟩; have HS := Lib.hid hs; clear hs)
      | (go_at_call 99; refine (read_step _ _ _).mono ?_; rintro e w' ⟨rfl, hb⟩; have HS := Lib.hid (HS.out.below hb); clear hb)
      | (go_at_call 100; refine (write_step _ _ _).mono ?_; rintro e w' ⟨rfl, hb⟩; have HS := Lib.hid (HS.out.below hb); clear hb)
      | (go_at_call 95; refine (wait_any _ _ _).mono ?_; rintro e w' ⟨rfl, hb⟩; have HS := Lib.hid (HS.out.below hb); clear hb)
      | (go_at_call 94; refine (work_any _ _).mono ?_; rintro e w' ⟨rfl, hb⟩; have HS := Lib.hid (HS.out.below hb); clear hb)
      | (go_at_call 101; refine (unless_any _ _).mono ?_; rintro e w' ⟨rfl, hb⟩; have HS := Lib.hid (HS.out.below hb); clear hb)
      | (go_at_call 92; refine (more_st HS.out _ _ (by omega) (by simp [flat_len, Mi.wordS, Mi.placeS]; try (split <;> simp)) (by omega) (by omega) rfl (by simp [Value.oneCell'])).mono ?_; rintro e w' ⟨v1, rfl, hs⟩; have HS := Lib.hid hs; clear hs))
    go_ret
    exact ⟨_, rfl, HS.out.cast (by simp [Mi.lastS, Mi.wordS, Mi.callS, flat, stp, Mi.readS, Mi.writeS, Mi.waitS, Mi.workS, Mi.unlessS, k0])⟩
  · skip
    go_enter Tryz.func58, Tryz.ntmps58
    go_wp2_with (first
      | (go_at_call 89; refine (z_any _ _ h0 h1).mono ?_; rintro e w' ⟨rfl, rfl⟩)
      | (go_at_call 91; refine (q_any _ _ h0 h1).mono ?_; rintro e w' ⟨rfl, rfl⟩)
      | (go_at_call 105; refine (p_any _ _ h0 h1).mono ?_; rintro e w' ⟨rfl, rfl⟩)
      | (go_at_call 93; refine (HS.out.call (by omega) (by simp [flat_len, Mi.wordS]) fun n ho hb hx => word_any base n _ _ _ ho hb hx).mono ?_; rintro e w' ⟨v1, rfl, hs⟩; have HS := Lib.hid hs; clear hs)
      | (go_at_call 104; refine (HS.out.call (by omega) (by simp [flat_len, Mi.wordS]) fun n ho hb hx => call_any base n _ _ _ ho hb hx).mono ?_; rintro e w' ⟨v1, rfl, hs⟩; have HS := Lib.hid hs; clear hs)
      | (go_at_call 102; refine (HS.out.call (by omega) (by simp) fun n ho hb hx => returns_any c base n _ _ _ ho hb (by simpa using hx0) h0 h1).mono ?_; rintro e w' ⟨v1, rfl, hs⟩; have HS := Lib.hid hs; clear hs)
      | (go_at_call 103; refine (HS.out.call (by omega) (by simp) fun n ho hb hx => ports_any c base n _ _ _ ho hb (by simpa using hx0) h0 h1).mono ?_; rintro e w' ⟨v1, rfl, hs⟩; have HS := Lib.hid hs; clear hs)
      | (go_at_call 99; refine (read_step _ _ _).mono ?_; rintro e w' ⟨rfl, hb⟩; have HS := Lib.hid (HS.out.below hb); clear hb)
      | (go_at_call 100; refine (write_step _ _ _).mono ?_; rintro e w' ⟨rfl, hb⟩; have HS := Lib.hid (HS.out.below hb); clear hb)
      | (go_at_call 95; refine (wait_any _ _ _).mono ?_; rintro e w' ⟨rfl, hb⟩; have HS := Lib.hid (HS.out.below hb); clear hb)
      | (go_at_call 94; refine (work_any _ _).mono ?_; rintro e w' ⟨rfl, hb⟩; have HS := Lib.hid (HS.out.below hb); clear hb)
      | (go_at_call 101; refine (unless_any _ _).mono ?_; rintro e w' ⟨rfl, hb⟩; have HS := Lib.hid (HS.out.below hb); clear hb)
      | (go_at_call 92; refine (more_st HS.out _ _ (by omega) (by simp [flat_len, Mi.wordS, Mi.placeS]; try (split <;> simp)) (by omega) (by omega) rfl (by simp [Value.oneCell'])).mono ?_; rintro e w' ⟨v1, rfl, hs⟩; have HS := Lib.hid hs; clear hs))
    go_ret
    exact ⟨_, rfl, HS.out.cast (by simp [Mi.lastS, Mi.wordS, Mi.callS, flat, stp, Mi.readS, Mi.writeS, Mi.waitS, Mi.workS, Mi.unlessS, k0])⟩
set_option maxRecDepth 100000 in
set_option maxHeartbeats 2000000 in
theorem bits_any (c : Int) (base n : Nat) (v : Value) (xs : List Value) (w : World) (ho : w.ownsRow base 65 4 v n xs) (hb : base ≤ w.heap.size) (hx0 : xs.length ≤ 4000) (h0 : 0 ≤ c) (h1 : c ≤ 255) :
    Calls Tryz.prog 59 #[v, .int .u8 c] w (Next_ base w v xs (flat (Mi.bitsS c))) := by
  have HS := Lib.hid (St.refl ho hb)
  clear ho hb
  have key : (c % 8 ≠ 6) ∨ (c % 8 = 6 ∧ c / 64 = 1) ∨ (c % 8 = 6 ∧ c / 64 ≠ 1) := by omega
  rcases key with k0 | ⟨k0, k1⟩ | ⟨k0, k1⟩
  · skip
    have b0 : (c % 8 == 6) = false := by simpa using k0
    have d0 : (c % 8 != 6) = true := by simpa using k0
    go_enter Tryz.func59, Tryz.ntmps59
    go_wp2_with (first
      | (go_at_call 89; refine (z_any _ _ h0 h1).mono ?_; rintro e w' ⟨rfl, rfl⟩)
      | (go_at_call 54; refine (x_any _ _ h0 h1).mono ?_; rintro e w' ⟨rfl, rfl⟩)
      | (go_at_call 99; refine (read_step _ _ _).mono ?_; rintro e w' ⟨rfl, hb⟩; have HS := Lib.hid (HS.out.below hb); clear hb)
      | (go_at_call 100; refine (write_step _ _ _).mono ?_; rintro e w' ⟨rfl, hb⟩; have HS := Lib.hid (HS.out.below hb); clear hb)
      | (go_at_call 95; refine (wait_any _ _ _).mono ?_; rintro e w' ⟨rfl, hb⟩; have HS := Lib.hid (HS.out.below hb); clear hb)
      | (go_at_call 94; refine (work_any _ _).mono ?_; rintro e w' ⟨rfl, hb⟩; have HS := Lib.hid (HS.out.below hb); clear hb)
      | (go_at_call 101; refine (unless_any _ _).mono ?_; rintro e w' ⟨rfl, hb⟩; have HS := Lib.hid (HS.out.below hb); clear hb)
      | (go_at_call 92; refine (more_st HS.out _ _ (by omega) (by simp [flat_len, Mi.wordS, Mi.placeS]; try (split <;> simp)) (by omega) (by omega) rfl (by simp [Value.oneCell'])).mono ?_; rintro e w' ⟨v1, rfl, hs⟩; have HS := Lib.hid hs; clear hs))
    go_ret
    exact ⟨_, rfl, HS.out.cast (by simp [Mi.bitsS, flat, stp, Mi.readS, Mi.writeS, Mi.waitS, Mi.workS, Mi.unlessS, k0])⟩
  · skip
    go_enter Tryz.func59, Tryz.ntmps59
    go_wp2_with (first
      | (go_at_call 89; refine (z_any _ _ h0 h1).mono ?_; rintro e w' ⟨rfl, rfl⟩)
      | (go_at_call 54; refine (x_any _ _ h0 h1).mono ?_; rintro e w' ⟨rfl, rfl⟩)
      | (go_at_call 99; refine (read_step _ _ _).mono ?_; rintro e w' ⟨rfl, hb⟩; have HS := Lib.hid (HS.out.below hb); clear hb)
      | (go_at_call 100; refine (write_step _ _ _).mono ?_; rintro e w' ⟨rfl, hb⟩; have HS := Lib.hid (HS.out.below hb); clear hb)
      | (go_at_call 95; refine (wait_any _ _ _).mono ?_; rintro e w' ⟨rfl, hb⟩; have HS := Lib.hid (HS.out.below hb); clear hb)
      | (go_at_call 94; refine (work_any _ _).mono ?_; rintro e w' ⟨rfl, hb⟩; have HS := Lib.hid (HS.out.below hb); clear hb)
      | (go_at_call 101; refine (unless_any _ _).mono ?_; rintro e w' ⟨rfl, hb⟩; have HS := Lib.hid (HS.out.below hb); clear hb)
      | (go_at_call 92; refine (more_st HS.out _ _ (by omega) (by simp [flat_len, Mi.wordS, Mi.placeS]; try (split <;> simp)) (by omega) (by omega) rfl (by simp [Value.oneCell'])).mono ?_; rintro e w' ⟨v1, rfl, hs⟩; have HS := Lib.hid hs; clear hs))
    go_ret
    exact ⟨_, rfl, HS.out.cast (by simp [Mi.bitsS, flat, stp, Mi.readS, Mi.writeS, Mi.waitS, Mi.workS, Mi.unlessS, k0, k1])⟩
  · skip
    have b1 : (c / 64 == 1) = false := by simpa using k1
    have d1 : (c / 64 != 1) = true := by simpa using k1
    go_enter Tryz.func59, Tryz.ntmps59
    go_wp2_with (first
      | (go_at_call 89; refine (z_any _ _ h0 h1).mono ?_; rintro e w' ⟨rfl, rfl⟩)
      | (go_at_call 54; refine (x_any _ _ h0 h1).mono ?_; rintro e w' ⟨rfl, rfl⟩)
      | (go_at_call 99; refine (read_step _ _ _).mono ?_; rintro e w' ⟨rfl, hb⟩; have HS := Lib.hid (HS.out.below hb); clear hb)
      | (go_at_call 100; refine (write_step _ _ _).mono ?_; rintro e w' ⟨rfl, hb⟩; have HS := Lib.hid (HS.out.below hb); clear hb)
      | (go_at_call 95; refine (wait_any _ _ _).mono ?_; rintro e w' ⟨rfl, hb⟩; have HS := Lib.hid (HS.out.below hb); clear hb)
      | (go_at_call 94; refine (work_any _ _).mono ?_; rintro e w' ⟨rfl, hb⟩; have HS := Lib.hid (HS.out.below hb); clear hb)
      | (go_at_call 101; refine (unless_any _ _).mono ?_; rintro e w' ⟨rfl, hb⟩; have HS := Lib.hid (HS.out.below hb); clear hb)
      | (go_at_call 92; refine (more_st HS.out _ _ (by omega) (by simp [flat_len, Mi.wordS, Mi.placeS]; try (split <;> simp)) (by omega) (by omega) rfl (by simp [Value.oneCell'])).mono ?_; rintro e w' ⟨v1, rfl, hs⟩; have HS := Lib.hid hs; clear hs))
    go_ret
    exact ⟨_, rfl, HS.out.cast (by simp [Mi.bitsS, flat, stp, Mi.readS, Mi.writeS, Mi.waitS, Mi.workS, Mi.unlessS, k0, k1])⟩
set_option maxRecDepth 100000 in
set_option maxHeartbeats 2000000 in
theorem indexed_any (c : Int) (base n : Nat) (v : Value) (xs : List Value) (w : World) (ho : w.ownsRow base 65 4 v n xs) (hb : base ≤ w.heap.size) (hx0 : xs.length ≤ 4000) (h0 : 0 ≤ c) (h1 : c ≤ 255) :
    Calls Tryz.prog 61 #[v, .int .u8 c] w (Next_ base w v xs (flat (Mi.indexedS c))) := by
  have HS := Lib.hid (St.refl ho hb)
  clear ho hb
  have key : (c / 64 = 1) ∨ (c / 64 ≠ 1) := by omega
  rcases key with k0 | k0
  · skip
    go_enter Tryz.func61, Tryz.ntmps61
    go_wp2_with (first
      | (go_at_call 54; refine (x_any _ _ h0 h1).mono ?_; rintro e w' ⟨rfl, rfl⟩)
      | (go_at_call 99; refine (read_step _ _ _).mono ?_; rintro e w' ⟨rfl, hb⟩; have HS := Lib.hid (HS.out.below hb); clear hb)
      | (go_at_call 100; refine (write_step _ _ _).mono ?_; rintro e w' ⟨rfl, hb⟩; have HS := Lib.hid (HS.out.below hb); clear hb)
      | (go_at_call 95; refine (wait_any _ _ _).mono ?_; rintro e w' ⟨rfl, hb⟩; have HS := Lib.hid (HS.out.below hb); clear hb)
      | (go_at_call 94; refine (work_any _ _).mono ?_; rintro e w' ⟨rfl, hb⟩; have HS := Lib.hid (HS.out.below hb); clear hb)
      | (go_at_call 101; refine (unless_any _ _).mono ?_; rintro e w' ⟨rfl, hb⟩; have HS := Lib.hid (HS.out.below hb); clear hb)
      | (go_at_call 92; refine (more_st HS.out _ _ (by omega) (by simp [flat_len, Mi.wordS, Mi.placeS]; try (split <;> simp)) (by omega) (by omega) rfl (by simp [Value.oneCell'])).mono ?_; rintro e w' ⟨v1, rfl, hs⟩; have HS := Lib.hid hs; clear hs))
    go_ret
    exact ⟨_, rfl, HS.out.cast (by simp [Mi.indexedS, flat, stp, Mi.readS, Mi.writeS, Mi.waitS, Mi.workS, Mi.unlessS, k0])⟩
  · skip
    have b0 : (c / 64 == 1) = false := by simpa using k0
    have d0 : (c / 64 != 1) = true := by simpa using k0
    go_enter Tryz.func61, Tryz.ntmps61
    go_wp2_with (first
      | (go_at_call 54; refine (x_any _ _ h0 h1).mono ?_; rintro e w' ⟨rfl, rfl⟩)
      | (go_at_call 99; refine (read_step _ _ _).mono ?_; rintro e w' ⟨rfl, hb⟩; have HS := Lib.hid (HS.out.below hb); clear hb)
      | (go_at_call 100; refine (write_step _ _ _).mono ?_; rintro e w' ⟨rfl, hb⟩; have HS := Lib.hid (HS.out.below hb); clear hb)
      | (go_at_call 95; refine (wait_any _ _ _).mono ?_; rintro e w' ⟨rfl, hb⟩; have HS := Lib.hid (HS.out.below hb); clear hb)
      | (go_at_call 94; refine (work_any _ _).mono ?_; rintro e w' ⟨rfl, hb⟩; have HS := Lib.hid (HS.out.below hb); clear hb)
      | (go_at_call 101; refine (unless_any _ _).mono ?_; rintro e w' ⟨rfl, hb⟩; have HS := Lib.hid (HS.out.below hb); clear hb)
      | (go_at_call 92; refine (more_st HS.out _ _ (by omega) (by simp [flat_len, Mi.wordS, Mi.placeS]; try (split <;> simp)) (by omega) (by omega) rfl (by simp [Value.oneCell'])).mono ?_; rintro e w' ⟨v1, rfl, hs⟩; have HS := Lib.hid hs; clear hs))
    go_ret
    exact ⟨_, rfl, HS.out.cast (by simp [Mi.indexedS, flat, stp, Mi.readS, Mi.writeS, Mi.waitS, Mi.workS, Mi.unlessS, k0])⟩
set_option maxRecDepth 100000 in
set_option maxHeartbeats 2000000 in
theorem specials_any (c : Int) (base n : Nat) (v : Value) (xs : List Value) (w : World) (ho : w.ownsRow base 65 4 v n xs) (hb : base ≤ w.heap.size) (hx0 : xs.length ≤ 4000) (h0 : 0 ≤ c) (h1 : c ≤ 255) :
    Calls Tryz.prog 107 #[v, .int .u8 c] w (Next_ base w v xs (flat (Mi.specialsS c))) := by
  have HS := Lib.hid (St.refl ho hb)
  clear ho hb
  have key : (c / 8 % 8 = 0) ∨ (c / 8 % 8 = 1) ∨ (c / 8 % 8 = 2) ∨ (c / 8 % 8 = 3) ∨ (c / 8 % 8 = 4) ∨ (c / 8 % 8 = 5) ∨ (c / 8 % 8 = 6) ∨ (c / 8 % 8 = 7) := by omega
  rcases key with k0 | k0 | k0 | k0 | k0 | k0 | k0 | k0
  · skip
    go_enter Tryz.func107, Tryz.ntmps107
    go_wp2_with (first
      | (go_at_call 97; refine (y_any _ _ h0 h1).mono ?_; rintro e w' ⟨rfl, rfl⟩)
      | (go_at_call 99; refine (read_step _ _ _).mono ?_; rintro e w' ⟨rfl, hb⟩; have HS := Lib.hid (HS.out.below hb); clear hb)
      | (go_at_call 100; refine (write_step _ _ _).mono ?_; rintro e w' ⟨rfl, hb⟩; have HS := Lib.hid (HS.out.below hb); clear hb)
      | (go_at_call 95; refine (wait_any _ _ _).mono ?_; rintro e w' ⟨rfl, hb⟩; have HS := Lib.hid (HS.out.below hb); clear hb)
      | (go_at_call 94; refine (work_any _ _).mono ?_; rintro e w' ⟨rfl, hb⟩; have HS := Lib.hid (HS.out.below hb); clear hb)
      | (go_at_call 101; refine (unless_any _ _).mono ?_; rintro e w' ⟨rfl, hb⟩; have HS := Lib.hid (HS.out.below hb); clear hb)
      | (go_at_call 92; refine (more_st HS.out _ _ (by omega) (by simp [flat_len, Mi.wordS, Mi.placeS]; try (split <;> simp)) (by omega) (by omega) rfl (by simp [Value.oneCell'])).mono ?_; rintro e w' ⟨v1, rfl, hs⟩; have HS := Lib.hid hs; clear hs))
    go_ret
    exact ⟨_, rfl, HS.out.cast (by simp [Mi.specialsS, flat, stp, Mi.readS, Mi.writeS, Mi.waitS, Mi.workS, Mi.unlessS, k0])⟩
  · skip
    go_enter Tryz.func107, Tryz.ntmps107
    go_wp2_with (first
      | (go_at_call 97; refine (y_any _ _ h0 h1).mono ?_; rintro e w' ⟨rfl, rfl⟩)
      | (go_at_call 99; refine (read_step _ _ _).mono ?_; rintro e w' ⟨rfl, hb⟩; have HS := Lib.hid (HS.out.below hb); clear hb)
      | (go_at_call 100; refine (write_step _ _ _).mono ?_; rintro e w' ⟨rfl, hb⟩; have HS := Lib.hid (HS.out.below hb); clear hb)
      | (go_at_call 95; refine (wait_any _ _ _).mono ?_; rintro e w' ⟨rfl, hb⟩; have HS := Lib.hid (HS.out.below hb); clear hb)
      | (go_at_call 94; refine (work_any _ _).mono ?_; rintro e w' ⟨rfl, hb⟩; have HS := Lib.hid (HS.out.below hb); clear hb)
      | (go_at_call 101; refine (unless_any _ _).mono ?_; rintro e w' ⟨rfl, hb⟩; have HS := Lib.hid (HS.out.below hb); clear hb)
      | (go_at_call 92; refine (more_st HS.out _ _ (by omega) (by simp [flat_len, Mi.wordS, Mi.placeS]; try (split <;> simp)) (by omega) (by omega) rfl (by simp [Value.oneCell'])).mono ?_; rintro e w' ⟨v1, rfl, hs⟩; have HS := Lib.hid hs; clear hs))
    go_ret
    exact ⟨_, rfl, HS.out.cast (by simp [Mi.specialsS, flat, stp, Mi.readS, Mi.writeS, Mi.waitS, Mi.workS, Mi.unlessS, k0])⟩
  · skip
    go_enter Tryz.func107, Tryz.ntmps107
    go_wp2_with (first
      | (go_at_call 97; refine (y_any _ _ h0 h1).mono ?_; rintro e w' ⟨rfl, rfl⟩)
      | (go_at_call 99; refine (read_step _ _ _).mono ?_; rintro e w' ⟨rfl, hb⟩; have HS := Lib.hid (HS.out.below hb); clear hb)
      | (go_at_call 100; refine (write_step _ _ _).mono ?_; rintro e w' ⟨rfl, hb⟩; have HS := Lib.hid (HS.out.below hb); clear hb)
      | (go_at_call 95; refine (wait_any _ _ _).mono ?_; rintro e w' ⟨rfl, hb⟩; have HS := Lib.hid (HS.out.below hb); clear hb)
      | (go_at_call 94; refine (work_any _ _).mono ?_; rintro e w' ⟨rfl, hb⟩; have HS := Lib.hid (HS.out.below hb); clear hb)
      | (go_at_call 101; refine (unless_any _ _).mono ?_; rintro e w' ⟨rfl, hb⟩; have HS := Lib.hid (HS.out.below hb); clear hb)
      | (go_at_call 92; refine (more_st HS.out _ _ (by omega) (by simp [flat_len, Mi.wordS, Mi.placeS]; try (split <;> simp)) (by omega) (by omega) rfl (by simp [Value.oneCell'])).mono ?_; rintro e w' ⟨v1, rfl, hs⟩; have HS := Lib.hid hs; clear hs))
    go_ret
    exact ⟨_, rfl, HS.out.cast (by simp [Mi.specialsS, flat, stp, Mi.readS, Mi.writeS, Mi.waitS, Mi.workS, Mi.unlessS, k0])⟩
  · skip
    go_enter Tryz.func107, Tryz.ntmps107
    go_wp2_with (first
      | (go_at_call 97; refine (y_any _ _ h0 h1).mono ?_; rintro e w' ⟨rfl, rfl⟩)
      | (go_at_call 99; refine (read_step _ _ _).mono ?_; rintro e w' ⟨rfl, hb⟩; have HS := Lib.hid (HS.out.below hb); clear hb)
      | (go_at_call 100; refine (write_step _ _ _).mono ?_; rintro e w' ⟨rfl, hb⟩; have HS := Lib.hid (HS.out.below hb); clear hb)
      | (go_at_call 95; refine (wait_any _ _ _).mono ?_; rintro e w' ⟨rfl, hb⟩; have HS := Lib.hid (HS.out.below hb); clear hb)
      | (go_at_call 94; refine (work_any _ _).mono ?_; rintro e w' ⟨rfl, hb⟩; have HS := Lib.hid (HS.out.below hb); clear hb)
      | (go_at_call 101; refine (unless_any _ _).mono ?_; rintro e w' ⟨rfl, hb⟩; have HS := Lib.hid (HS.out.below hb); clear hb)
      | (go_at_call 92; refine (more_st HS.out _ _ (by omega) (by simp [flat_len, Mi.wordS, Mi.placeS]; try (split <;> simp)) (by omega) (by omega) rfl (by simp [Value.oneCell'])).mono ?_; rintro e w' ⟨v1, rfl, hs⟩; have HS := Lib.hid hs; clear hs))
    go_ret
    exact ⟨_, rfl, HS.out.cast (by simp [Mi.specialsS, flat, stp, Mi.readS, Mi.writeS, Mi.waitS, Mi.workS, Mi.unlessS, k0])⟩
  · skip
    go_enter Tryz.func107, Tryz.ntmps107
    go_wp2_with (first
      | (go_at_call 97; refine (y_any _ _ h0 h1).mono ?_; rintro e w' ⟨rfl, rfl⟩)
      | (go_at_call 99; refine (read_step _ _ _).mono ?_; rintro e w' ⟨rfl, hb⟩; have HS := Lib.hid (HS.out.below hb); clear hb)
      | (go_at_call 100; refine (write_step _ _ _).mono ?_; rintro e w' ⟨rfl, hb⟩; have HS := Lib.hid (HS.out.below hb); clear hb)
      | (go_at_call 95; refine (wait_any _ _ _).mono ?_; rintro e w' ⟨rfl, hb⟩; have HS := Lib.hid (HS.out.below hb); clear hb)
      | (go_at_call 94; refine (work_any _ _).mono ?_; rintro e w' ⟨rfl, hb⟩; have HS := Lib.hid (HS.out.below hb); clear hb)
      | (go_at_call 101; refine (unless_any _ _).mono ?_; rintro e w' ⟨rfl, hb⟩; have HS := Lib.hid (HS.out.below hb); clear hb)
      | (go_at_call 92; refine (more_st HS.out _ _ (by omega) (by simp [flat_len, Mi.wordS, Mi.placeS]; try (split <;> simp)) (by omega) (by omega) rfl (by simp [Value.oneCell'])).mono ?_; rintro e w' ⟨v1, rfl, hs⟩; have HS := Lib.hid hs; clear hs))
    go_ret
    exact ⟨_, rfl, HS.out.cast (by simp [Mi.specialsS, flat, stp, Mi.readS, Mi.writeS, Mi.waitS, Mi.workS, Mi.unlessS, k0])⟩
  · skip
    go_enter Tryz.func107, Tryz.ntmps107
    go_wp2_with (first
      | (go_at_call 97; refine (y_any _ _ h0 h1).mono ?_; rintro e w' ⟨rfl, rfl⟩)
      | (go_at_call 99; refine (read_step _ _ _).mono ?_; rintro e w' ⟨rfl, hb⟩; have HS := Lib.hid (HS.out.below hb); clear hb)
      | (go_at_call 100; refine (write_step _ _ _).mono ?_; rintro e w' ⟨rfl, hb⟩; have HS := Lib.hid (HS.out.below hb); clear hb)
      | (go_at_call 95; refine (wait_any _ _ _).mono ?_; rintro e w' ⟨rfl, hb⟩; have HS := Lib.hid (HS.out.below hb); clear hb)
      | (go_at_call 94; refine (work_any _ _).mono ?_; rintro e w' ⟨rfl, hb⟩; have HS := Lib.hid (HS.out.below hb); clear hb)
      | (go_at_call 101; refine (unless_any _ _).mono ?_; rintro e w' ⟨rfl, hb⟩; have HS := Lib.hid (HS.out.below hb); clear hb)
      | (go_at_call 92; refine (more_st HS.out _ _ (by omega) (by simp [flat_len, Mi.wordS, Mi.placeS]; try (split <;> simp)) (by omega) (by omega) rfl (by simp [Value.oneCell'])).mono ?_; rintro e w' ⟨v1, rfl, hs⟩; have HS := Lib.hid hs; clear hs))
    go_ret
    exact ⟨_, rfl, HS.out.cast (by simp [Mi.specialsS, flat, stp, Mi.readS, Mi.writeS, Mi.waitS, Mi.workS, Mi.unlessS, k0])⟩
  · skip
    go_enter Tryz.func107, Tryz.ntmps107
    go_wp2_with (first
      | (go_at_call 97; refine (y_any _ _ h0 h1).mono ?_; rintro e w' ⟨rfl, rfl⟩)
      | (go_at_call 99; refine (read_step _ _ _).mono ?_; rintro e w' ⟨rfl, hb⟩; have HS := Lib.hid (HS.out.below hb); clear hb)
      | (go_at_call 100; refine (write_step _ _ _).mono ?_; rintro e w' ⟨rfl, hb⟩; have HS := Lib.hid (HS.out.below hb); clear hb)
      | (go_at_call 95; refine (wait_any _ _ _).mono ?_; rintro e w' ⟨rfl, hb⟩; have HS := Lib.hid (HS.out.below hb); clear hb)
      | (go_at_call 94; refine (work_any _ _).mono ?_; rintro e w' ⟨rfl, hb⟩; have HS := Lib.hid (HS.out.below hb); clear hb)
      | (go_at_call 101; refine (unless_any _ _).mono ?_; rintro e w' ⟨rfl, hb⟩; have HS := Lib.hid (HS.out.below hb); clear hb)
      | (go_at_call 92; refine (more_st HS.out _ _ (by omega) (by simp [flat_len, Mi.wordS, Mi.placeS]; try (split <;> simp)) (by omega) (by omega) rfl (by simp [Value.oneCell'])).mono ?_; rintro e w' ⟨v1, rfl, hs⟩; have HS := Lib.hid hs; clear hs))
    go_ret
    exact ⟨_, rfl, HS.out.cast (by simp [Mi.specialsS, flat, stp, Mi.readS, Mi.writeS, Mi.waitS, Mi.workS, Mi.unlessS, k0])⟩
  · skip
    go_enter Tryz.func107, Tryz.ntmps107
    go_wp2_with (first
      | (go_at_call 97; refine (y_any _ _ h0 h1).mono ?_; rintro e w' ⟨rfl, rfl⟩)
      | (go_at_call 99; refine (read_step _ _ _).mono ?_; rintro e w' ⟨rfl, hb⟩; have HS := Lib.hid (HS.out.below hb); clear hb)
      | (go_at_call 100; refine (write_step _ _ _).mono ?_; rintro e w' ⟨rfl, hb⟩; have HS := Lib.hid (HS.out.below hb); clear hb)
      | (go_at_call 95; refine (wait_any _ _ _).mono ?_; rintro e w' ⟨rfl, hb⟩; have HS := Lib.hid (HS.out.below hb); clear hb)
      | (go_at_call 94; refine (work_any _ _).mono ?_; rintro e w' ⟨rfl, hb⟩; have HS := Lib.hid (HS.out.below hb); clear hb)
      | (go_at_call 101; refine (unless_any _ _).mono ?_; rintro e w' ⟨rfl, hb⟩; have HS := Lib.hid (HS.out.below hb); clear hb)
      | (go_at_call 92; refine (more_st HS.out _ _ (by omega) (by simp [flat_len, Mi.wordS, Mi.placeS]; try (split <;> simp)) (by omega) (by omega) rfl (by simp [Value.oneCell'])).mono ?_; rintro e w' ⟨v1, rfl, hs⟩; have HS := Lib.hid hs; clear hs))
    go_ret
    exact ⟨_, rfl, HS.out.cast (by simp [Mi.specialsS, flat, stp, Mi.readS, Mi.writeS, Mi.waitS, Mi.workS, Mi.unlessS, k0])⟩
set_option maxRecDepth 100000 in
set_option maxHeartbeats 2000000 in
theorem blocks_any (c : Int) (base n : Nat) (v : Value) (xs : List Value) (w : World) (ho : w.ownsRow base 65 4 v n xs) (hb : base ≤ w.heap.size) (hx0 : xs.length ≤ 4000) (h0 : 0 ≤ c) (h1 : c ≤ 255) (hz : c % 8 ≤ 3) :
    Calls Tryz.prog 106 #[v, .int .u8 c] w (Next_ base w v xs (flat (Mi.blocksS c))) := by
  have HS := Lib.hid (St.refl ho hb)
  clear ho hb
  have key : (c % 8 = 0 ∧ c / 8 % 8 < 6) ∨ (c % 8 = 0 ∧ c / 8 % 8 = 6) ∨ (c % 8 = 0 ∧ c / 8 % 8 = 7) ∨ (c % 8 = 1 ∧ c / 8 % 8 < 6) ∨ (c % 8 = 1 ∧ c / 8 % 8 = 6) ∨ (c % 8 = 1 ∧ c / 8 % 8 = 7) ∨ (c % 8 = 2 ∧ c / 8 % 8 < 6) ∨ (c % 8 = 2 ∧ c / 8 % 8 = 6) ∨ (c % 8 = 2 ∧ c / 8 % 8 = 7) ∨ (c % 8 = 3 ∧ c / 8 % 8 < 6) ∨ (c % 8 = 3 ∧ c / 8 % 8 = 6) ∨ (c % 8 = 3 ∧ c / 8 % 8 = 7) := by omega
  rcases key with ⟨k0, k1⟩ | ⟨k0, k1⟩ | ⟨k0, k1⟩ | ⟨k0, k1⟩ | ⟨k0, k1⟩ | ⟨k0, k1⟩ | ⟨k0, k1⟩ | ⟨k0, k1⟩ | ⟨k0, k1⟩ | ⟨k0, k1⟩ | ⟨k0, k1⟩ | ⟨k0, k1⟩
  · skip
    go_enter Tryz.func106, Tryz.ntmps106
    go_wp2_with (first
      | (go_at_call 89; refine (z_any _ _ h0 h1).mono ?_; rintro e w' ⟨rfl, rfl⟩)
      | (go_at_call 97; refine (y_any _ _ h0 h1).mono ?_; rintro e w' ⟨rfl, rfl⟩)
      | (go_at_call 99; refine (read_step _ _ _).mono ?_; rintro e w' ⟨rfl, hb⟩; have HS := Lib.hid (HS.out.below hb); clear hb)
      | (go_at_call 100; refine (write_step _ _ _).mono ?_; rintro e w' ⟨rfl, hb⟩; have HS := Lib.hid (HS.out.below hb); clear hb)
      | (go_at_call 95; refine (wait_any _ _ _).mono ?_; rintro e w' ⟨rfl, hb⟩; have HS := Lib.hid (HS.out.below hb); clear hb)
      | (go_at_call 94; refine (work_any _ _).mono ?_; rintro e w' ⟨rfl, hb⟩; have HS := Lib.hid (HS.out.below hb); clear hb)
      | (go_at_call 101; refine (unless_any _ _).mono ?_; rintro e w' ⟨rfl, hb⟩; have HS := Lib.hid (HS.out.below hb); clear hb)
      | (go_at_call 92; refine (more_st HS.out _ _ (by omega) (by simp [flat_len, Mi.wordS, Mi.placeS]; try (split <;> simp)) (by omega) (by omega) rfl (by simp [Value.oneCell'])).mono ?_; rintro e w' ⟨v1, rfl, hs⟩; have HS := Lib.hid hs; clear hs))
    go_ret
    exact ⟨_, rfl, HS.out.cast (by simp [Mi.blocksS, flat, stp, Mi.readS, Mi.writeS, Mi.waitS, Mi.workS, Mi.unlessS, k0, k1])⟩
  · skip
    go_enter Tryz.func106, Tryz.ntmps106
    go_wp2_with (first
      | (go_at_call 89; refine (z_any _ _ h0 h1).mono ?_; rintro e w' ⟨rfl, rfl⟩)
      | (go_at_call 97; refine (y_any _ _ h0 h1).mono ?_; rintro e w' ⟨rfl, rfl⟩)
      | (go_at_call 99; refine (read_step _ _ _).mono ?_; rintro e w' ⟨rfl, hb⟩; have HS := Lib.hid (HS.out.below hb); clear hb)
      | (go_at_call 100; refine (write_step _ _ _).mono ?_; rintro e w' ⟨rfl, hb⟩; have HS := Lib.hid (HS.out.below hb); clear hb)
      | (go_at_call 95; refine (wait_any _ _ _).mono ?_; rintro e w' ⟨rfl, hb⟩; have HS := Lib.hid (HS.out.below hb); clear hb)
      | (go_at_call 94; refine (work_any _ _).mono ?_; rintro e w' ⟨rfl, hb⟩; have HS := Lib.hid (HS.out.below hb); clear hb)
      | (go_at_call 101; refine (unless_any _ _).mono ?_; rintro e w' ⟨rfl, hb⟩; have HS := Lib.hid (HS.out.below hb); clear hb)
      | (go_at_call 92; refine (more_st HS.out _ _ (by omega) (by simp [flat_len, Mi.wordS, Mi.placeS]; try (split <;> simp)) (by omega) (by omega) rfl (by simp [Value.oneCell'])).mono ?_; rintro e w' ⟨v1, rfl, hs⟩; have HS := Lib.hid hs; clear hs))
    go_ret
    exact ⟨_, rfl, HS.out.cast (by simp [Mi.blocksS, flat, stp, Mi.readS, Mi.writeS, Mi.waitS, Mi.workS, Mi.unlessS, k0, k1])⟩
  · skip
    go_enter Tryz.func106, Tryz.ntmps106
    go_wp2_with (first
      | (go_at_call 89; refine (z_any _ _ h0 h1).mono ?_; rintro e w' ⟨rfl, rfl⟩)
      | (go_at_call 97; refine (y_any _ _ h0 h1).mono ?_; rintro e w' ⟨rfl, rfl⟩)
      | (go_at_call 99; refine (read_step _ _ _).mono ?_; rintro e w' ⟨rfl, hb⟩; have HS := Lib.hid (HS.out.below hb); clear hb)
      | (go_at_call 100; refine (write_step _ _ _).mono ?_; rintro e w' ⟨rfl, hb⟩; have HS := Lib.hid (HS.out.below hb); clear hb)
      | (go_at_call 95; refine (wait_any _ _ _).mono ?_; rintro e w' ⟨rfl, hb⟩; have HS := Lib.hid (HS.out.below hb); clear hb)
      | (go_at_call 94; refine (work_any _ _).mono ?_; rintro e w' ⟨rfl, hb⟩; have HS := Lib.hid (HS.out.below hb); clear hb)
      | (go_at_call 101; refine (unless_any _ _).mono ?_; rintro e w' ⟨rfl, hb⟩; have HS := Lib.hid (HS.out.below hb); clear hb)
      | (go_at_call 92; refine (more_st HS.out _ _ (by omega) (by simp [flat_len, Mi.wordS, Mi.placeS]; try (split <;> simp)) (by omega) (by omega) rfl (by simp [Value.oneCell'])).mono ?_; rintro e w' ⟨v1, rfl, hs⟩; have HS := Lib.hid hs; clear hs))
    go_ret
    exact ⟨_, rfl, HS.out.cast (by simp [Mi.blocksS, flat, stp, Mi.readS, Mi.writeS, Mi.waitS, Mi.workS, Mi.unlessS, k0, k1])⟩
  · skip
    go_enter Tryz.func106, Tryz.ntmps106
    go_wp2_with (first
      | (go_at_call 89; refine (z_any _ _ h0 h1).mono ?_; rintro e w' ⟨rfl, rfl⟩)
      | (go_at_call 97; refine (y_any _ _ h0 h1).mono ?_; rintro e w' ⟨rfl, rfl⟩)
      | (go_at_call 99; refine (read_step _ _ _).mono ?_; rintro e w' ⟨rfl, hb⟩; have HS := Lib.hid (HS.out.below hb); clear hb)
      | (go_at_call 100; refine (write_step _ _ _).mono ?_; rintro e w' ⟨rfl, hb⟩; have HS := Lib.hid (HS.out.below hb); clear hb)
      | (go_at_call 95; refine (wait_any _ _ _).mono ?_; rintro e w' ⟨rfl, hb⟩; have HS := Lib.hid (HS.out.below hb); clear hb)
      | (go_at_call 94; refine (work_any _ _).mono ?_; rintro e w' ⟨rfl, hb⟩; have HS := Lib.hid (HS.out.below hb); clear hb)
      | (go_at_call 101; refine (unless_any _ _).mono ?_; rintro e w' ⟨rfl, hb⟩; have HS := Lib.hid (HS.out.below hb); clear hb)
      | (go_at_call 92; refine (more_st HS.out _ _ (by omega) (by simp [flat_len, Mi.wordS, Mi.placeS]; try (split <;> simp)) (by omega) (by omega) rfl (by simp [Value.oneCell'])).mono ?_; rintro e w' ⟨v1, rfl, hs⟩; have HS := Lib.hid hs; clear hs))
    go_ret
    exact ⟨_, rfl, HS.out.cast (by simp [Mi.blocksS, flat, stp, Mi.readS, Mi.writeS, Mi.waitS, Mi.workS, Mi.unlessS, k0, k1])⟩
  · skip
    go_enter Tryz.func106, Tryz.ntmps106
    go_wp2_with (first
      | (go_at_call 89; refine (z_any _ _ h0 h1).mono ?_; rintro e w' ⟨rfl, rfl⟩)
      | (go_at_call 97; refine (y_any _ _ h0 h1).mono ?_; rintro e w' ⟨rfl, rfl⟩)
      | (go_at_call 99; refine (read_step _ _ _).mono ?_; rintro e w' ⟨rfl, hb⟩; have HS := Lib.hid (HS.out.below hb); clear hb)
      | (go_at_call 100; refine (write_step _ _ _).mono ?_; rintro e w' ⟨rfl, hb⟩; have HS := Lib.hid (HS.out.below hb); clear hb)
      | (go_at_call 95; refine (wait_any _ _ _).mono ?_; rintro e w' ⟨rfl, hb⟩; have HS := Lib.hid (HS.out.below hb); clear hb)
      | (go_at_call 94; refine (work_any _ _).mono ?_; rintro e w' ⟨rfl, hb⟩; have HS := Lib.hid (HS.out.below hb); clear hb)
      | (go_at_call 101; refine (unless_any _ _).mono ?_; rintro e w' ⟨rfl, hb⟩; have HS := Lib.hid (HS.out.below hb); clear hb)
      | (go_at_call 92; refine (more_st HS.out _ _ (by omega) (by simp [flat_len, Mi.wordS, Mi.placeS]; try (split <;> simp)) (by omega) (by omega) rfl (by simp [Value.oneCell'])).mono ?_; rintro e w' ⟨v1, rfl, hs⟩; have HS := Lib.hid hs; clear hs))
    go_ret
    exact ⟨_, rfl, HS.out.cast (by simp [Mi.blocksS, flat, stp, Mi.readS, Mi.writeS, Mi.waitS, Mi.workS, Mi.unlessS, k0, k1])⟩
  · skip
    go_enter Tryz.func106, Tryz.ntmps106
    go_wp2_with (first
      | (go_at_call 89; refine (z_any _ _ h0 h1).mono ?_; rintro e w' ⟨rfl, rfl⟩)
      | (go_at_call 97; refine (y_any _ _ h0 h1).mono ?_; rintro e w' ⟨rfl, rfl⟩)
      | (go_at_call 99; refine (read_step _ _ _).mono ?_; rintro e w' ⟨rfl, hb⟩; have HS := Lib.hid (HS.out.below hb); clear hb)
      | (go_at_call 100; refine (write_step _ _ _).mono ?_; rintro e w' ⟨rfl, hb⟩; have HS := Lib.hid (HS.out.below hb); clear hb)
      | (go_at_call 95; refine (wait_any _ _ _).mono ?_; rintro e w' ⟨rfl, hb⟩; have HS := Lib.hid (HS.out.below hb); clear hb)
      | (go_at_call 94; refine (work_any _ _).mono ?_; rintro e w' ⟨rfl, hb⟩; have HS := Lib.hid (HS.out.below hb); clear hb)
      | (go_at_call 101; refine (unless_any _ _).mono ?_; rintro e w' ⟨rfl, hb⟩; have HS := Lib.hid (HS.out.below hb); clear hb)
      | (go_at_call 92; refine (more_st HS.out _ _ (by omega) (by simp [flat_len, Mi.wordS, Mi.placeS]; try (split <;> simp)) (by omega) (by omega) rfl (by simp [Value.oneCell'])).mono ?_; rintro e w' ⟨v1, rfl, hs⟩; have HS := Lib.hid hs; clear hs))
    go_ret
    exact ⟨_, rfl, HS.out.cast (by simp [Mi.blocksS, flat, stp, Mi.readS, Mi.writeS, Mi.waitS, Mi.workS, Mi.unlessS, k0, k1])⟩
  · skip
    go_enter Tryz.func106, Tryz.ntmps106
    go_wp2_with (first
      | (go_at_call 89; refine (z_any _ _ h0 h1).mono ?_; rintro e w' ⟨rfl, rfl⟩)
      | (go_at_call 97; refine (y_any _ _ h0 h1).mono ?_; rintro e w' ⟨rfl, rfl⟩)
      | (go_at_call 99; refine (read_step _ _ _).mono ?_; rintro e w' ⟨rfl, hb⟩; have HS := Lib.hid (HS.out.below hb); clear hb)
      | (go_at_call 100; refine (write_step _ _ _).mono ?_; rintro e w' ⟨rfl, hb⟩; have HS := Lib.hid (HS.out.below hb); clear hb)
      | (go_at_call 95; refine (wait_any _ _ _).mono ?_; rintro e w' ⟨rfl, hb⟩; have HS := Lib.hid (HS.out.below hb); clear hb)
      | (go_at_call 94; refine (work_any _ _).mono ?_; rintro e w' ⟨rfl, hb⟩; have HS := Lib.hid (HS.out.below hb); clear hb)
      | (go_at_call 101; refine (unless_any _ _).mono ?_; rintro e w' ⟨rfl, hb⟩; have HS := Lib.hid (HS.out.below hb); clear hb)
      | (go_at_call 92; refine (more_st HS.out _ _ (by omega) (by simp [flat_len, Mi.wordS, Mi.placeS]; try (split <;> simp)) (by omega) (by omega) rfl (by simp [Value.oneCell'])).mono ?_; rintro e w' ⟨v1, rfl, hs⟩; have HS := Lib.hid hs; clear hs))
    go_ret
    exact ⟨_, rfl, HS.out.cast (by simp [Mi.blocksS, flat, stp, Mi.readS, Mi.writeS, Mi.waitS, Mi.workS, Mi.unlessS, k0, k1])⟩
  · skip
    go_enter Tryz.func106, Tryz.ntmps106
    go_wp2_with (first
      | (go_at_call 89; refine (z_any _ _ h0 h1).mono ?_; rintro e w' ⟨rfl, rfl⟩)
      | (go_at_call 97; refine (y_any _ _ h0 h1).mono ?_; rintro e w' ⟨rfl, rfl⟩)
      | (go_at_call 99; refine (read_step _ _ _).mono ?_; rintro e w' ⟨rfl, hb⟩; have HS := Lib.hid (HS.out.below hb); clear hb)
      | (go_at_call 100; refine (write_step _ _ _).mono ?_; rintro e w' ⟨rfl, hb⟩; have HS := Lib.hid (HS.out.below hb); clear hb)
      | (go_at_call 95; refine (wait_any _ _ _).mono ?_; rintro e w' ⟨rfl, hb⟩; have HS := Lib.hid (HS.out.below hb); clear hb)
      | (go_at_call 94; refine (work_any _ _).mono ?_; rintro e w' ⟨rfl, hb⟩; have HS := Lib.hid (HS.out.below hb); clear hb)
      | (go_at_call 101; refine (unless_any _ _).mono ?_; rintro e w' ⟨rfl, hb⟩; have HS := Lib.hid (HS.out.below hb); clear hb)
      | (go_at_call 92; refine (more_st HS.out _ _ (by omega) (by simp [flat_len, Mi.wordS, Mi.placeS]; try (split <;> simp)) (by omega) (by omega) rfl (by simp [Value.oneCell'])).mono ?_; rintro e w' ⟨v1, rfl, hs⟩; have HS := Lib.hid hs; clear hs))
    go_ret
    exact ⟨_, rfl, HS.out.cast (by simp [Mi.blocksS, flat, stp, Mi.readS, Mi.writeS, Mi.waitS, Mi.workS, Mi.unlessS, k0, k1])⟩
  · skip
    go_enter Tryz.func106, Tryz.ntmps106
    go_wp2_with (first
      | (go_at_call 89; refine (z_any _ _ h0 h1).mono ?_; rintro e w' ⟨rfl, rfl⟩)
      | (go_at_call 97; refine (y_any _ _ h0 h1).mono ?_; rintro e w' ⟨rfl, rfl⟩)
      | (go_at_call 99; refine (read_step _ _ _).mono ?_; rintro e w' ⟨rfl, hb⟩; have HS := Lib.hid (HS.out.below hb); clear hb)
      | (go_at_call 100; refine (write_step _ _ _).mono ?_; rintro e w' ⟨rfl, hb⟩; have HS := Lib.hid (HS.out.below hb); clear hb)
      | (go_at_call 95; refine (wait_any _ _ _).mono ?_; rintro e w' ⟨rfl, hb⟩; have HS := Lib.hid (HS.out.below hb); clear hb)
      | (go_at_call 94; refine (work_any _ _).mono ?_; rintro e w' ⟨rfl, hb⟩; have HS := Lib.hid (HS.out.below hb); clear hb)
      | (go_at_call 101; refine (unless_any _ _).mono ?_; rintro e w' ⟨rfl, hb⟩; have HS := Lib.hid (HS.out.below hb); clear hb)
      | (go_at_call 92; refine (more_st HS.out _ _ (by omega) (by simp [flat_len, Mi.wordS, Mi.placeS]; try (split <;> simp)) (by omega) (by omega) rfl (by simp [Value.oneCell'])).mono ?_; rintro e w' ⟨v1, rfl, hs⟩; have HS := Lib.hid hs; clear hs))
    go_ret
    exact ⟨_, rfl, HS.out.cast (by simp [Mi.blocksS, flat, stp, Mi.readS, Mi.writeS, Mi.waitS, Mi.workS, Mi.unlessS, k0, k1])⟩
  · skip
    go_enter Tryz.func106, Tryz.ntmps106
    go_wp2_with (first
      | (go_at_call 89; refine (z_any _ _ h0 h1).mono ?_; rintro e w' ⟨rfl, rfl⟩)
      | (go_at_call 97; refine (y_any _ _ h0 h1).mono ?_; rintro e w' ⟨rfl, rfl⟩)
      | (go_at_call 99; refine (read_step _ _ _).mono ?_; rintro e w' ⟨rfl, hb⟩; have HS := Lib.hid (HS.out.below hb); clear hb)
      | (go_at_call 100; refine (write_step _ _ _).mono ?_; rintro e w' ⟨rfl, hb⟩; have HS := Lib.hid (HS.out.below hb); clear hb)
      | (go_at_call 95; refine (wait_any _ _ _).mono ?_; rintro e w' ⟨rfl, hb⟩; have HS := Lib.hid (HS.out.below hb); clear hb)
      | (go_at_call 94; refine (work_any _ _).mono ?_; rintro e w' ⟨rfl, hb⟩; have HS := Lib.hid (HS.out.below hb); clear hb)
      | (go_at_call 101; refine (unless_any _ _).mono ?_; rintro e w' ⟨rfl, hb⟩; have HS := Lib.hid (HS.out.below hb); clear hb)
      | (go_at_call 92; refine (more_st HS.out _ _ (by omega) (by simp [flat_len, Mi.wordS, Mi.placeS]; try (split <;> simp)) (by omega) (by omega) rfl (by simp [Value.oneCell'])).mono ?_; rintro e w' ⟨v1, rfl, hs⟩; have HS := Lib.hid hs; clear hs))
    go_ret
    exact ⟨_, rfl, HS.out.cast (by simp [Mi.blocksS, flat, stp, Mi.readS, Mi.writeS, Mi.waitS, Mi.workS, Mi.unlessS, k0, k1])⟩
  · skip
    go_enter Tryz.func106, Tryz.ntmps106
    go_wp2_with (first
      | (go_at_call 89; refine (z_any _ _ h0 h1).mono ?_; rintro e w' ⟨rfl, rfl⟩)
      | (go_at_call 97; refine (y_any _ _ h0 h1).mono ?_; rintro e w' ⟨rfl, rfl⟩)
      | (go_at_call 99; refine (read_step _ _ _).mono ?_; rintro e w' ⟨rfl, hb⟩; have HS := Lib.hid (HS.out.below hb); clear hb)
      | (go_at_call 100; refine (write_step _ _ _).mono ?_; rintro e w' ⟨rfl, hb⟩; have HS := Lib.hid (HS.out.below hb); clear hb)
      | (go_at_call 95; refine (wait_any _ _ _).mono ?_; rintro e w' ⟨rfl, hb⟩; have HS := Lib.hid (HS.out.below hb); clear hb)
      | (go_at_call 94; refine (work_any _ _).mono ?_; rintro e w' ⟨rfl, hb⟩; have HS := Lib.hid (HS.out.below hb); clear hb)
      | (go_at_call 101; refine (unless_any _ _).mono ?_; rintro e w' ⟨rfl, hb⟩; have HS := Lib.hid (HS.out.below hb); clear hb)
      | (go_at_call 92; refine (more_st HS.out _ _ (by omega) (by simp [flat_len, Mi.wordS, Mi.placeS]; try (split <;> simp)) (by omega) (by omega) rfl (by simp [Value.oneCell'])).mono ?_; rintro e w' ⟨v1, rfl, hs⟩; have HS := Lib.hid hs; clear hs))
    go_ret
    exact ⟨_, rfl, HS.out.cast (by simp [Mi.blocksS, flat, stp, Mi.readS, Mi.writeS, Mi.waitS, Mi.workS, Mi.unlessS, k0, k1])⟩
  · skip
    go_enter Tryz.func106, Tryz.ntmps106
    go_wp2_with (first
      | (go_at_call 89; refine (z_any _ _ h0 h1).mono ?_; rintro e w' ⟨rfl, rfl⟩)
      | (go_at_call 97; refine (y_any _ _ h0 h1).mono ?_; rintro e w' ⟨rfl, rfl⟩)
      | (go_at_call 99; refine (read_step _ _ _).mono ?_; rintro e w' ⟨rfl, hb⟩; have HS := Lib.hid (HS.out.below hb); clear hb)
      | (go_at_call 100; refine (write_step _ _ _).mono ?_; rintro e w' ⟨rfl, hb⟩; have HS := Lib.hid (HS.out.below hb); clear hb)
      | (go_at_call 95; refine (wait_any _ _ _).mono ?_; rintro e w' ⟨rfl, hb⟩; have HS := Lib.hid (HS.out.below hb); clear hb)
      | (go_at_call 94; refine (work_any _ _).mono ?_; rintro e w' ⟨rfl, hb⟩; have HS := Lib.hid (HS.out.below hb); clear hb)
      | (go_at_call 101; refine (unless_any _ _).mono ?_; rintro e w' ⟨rfl, hb⟩; have HS := Lib.hid (HS.out.below hb); clear hb)
      | (go_at_call 92; refine (more_st HS.out _ _ (by omega) (by simp [flat_len, Mi.wordS, Mi.placeS]; try (split <;> simp)) (by omega) (by omega) rfl (by simp [Value.oneCell'])).mono ?_; rintro e w' ⟨v1, rfl, hs⟩; have HS := Lib.hid hs; clear hs))
    go_ret
    exact ⟨_, rfl, HS.out.cast (by simp [Mi.blocksS, flat, stp, Mi.readS, Mi.writeS, Mi.waitS, Mi.workS, Mi.unlessS, k0, k1])⟩
end Go.Proofs.YtbhpmnhlmeglcaaGreat
