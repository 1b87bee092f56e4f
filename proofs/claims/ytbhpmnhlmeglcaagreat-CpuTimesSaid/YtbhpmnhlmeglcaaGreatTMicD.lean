/- Package micro: the walks, as gen_micro.py prints them. -/
import Derived.Test.YtbhpmnhlmeglcaaGreatTMicZ
namespace Go.Proofs.YtbhpmnhlmeglcaaGreat
set_option linter.unusedSimpArgs false
set_option linter.unusedVariables false
open Go.RowKit

theorem St.call {base : Nat} {w0 w : World} {v0 v : Value} {xs ys zs : List Value} {f : FuncId} {args : Array Value} (h : St 65 base w0 v0 xs w v ys) (hx : xs.length ≤ 4000) (hy : ys.length ≤ 400)
    (hc : ∀ n, w.ownsRow base 65 4 v n (xs ++ ys) → base ≤ w.heap.size → (xs ++ ys).length ≤ 4400 → Calls Tryz.prog f args w (Next_ base w v (xs ++ ys) zs)) : Calls Tryz.prog f args w (Next_ base w0 v0 xs (ys ++ zs)) := by
  obtain ⟨n, ho⟩ := h.own
  refine (hc n ho (Nat.le_trans h.base_le h.grown.size) (by rw [List.length_append]; omega)).mono ?_
  rintro e w' ⟨v1, rfl, hs⟩
  exact ⟨v1, rfl, h.trans hs trivial⟩
namespace Mi
def jumpsS (c : Int) : List Stp := if c / 8 % 8 = 0 then [] else if c / 8 % 8 = 1 then [workS 0] else (if c / 8 % 8 = 2 then [waitS 1 8, workS 1, readS 0 0, unlessS 2] else if c / 8 % 8 = 3 then [readS 0 0] else [readS 0 0, unlessS 1]) ++ [waitS 5 9, workS 2]
def movesS (c : Int) : List Stp := if c / 16 % 4 < 2 ∧ c / 8 % 2 = 0 then [writeS (if c / 16 % 4 = 1 then 3 else 2) 2, workS 7, workS 5] else if c / 16 % 4 < 2 then [readS (if c / 16 % 4 = 1 then 3 else 2) 0, workS 7, workS 9] else if c / 16 % 4 = 2 ∧ c / 8 % 2 = 0 then wordS ++ [workS 8, writeS 7 4, workS 6, writeS 7 3] else if c / 16 % 4 = 2 then wordS ++ [workS 8, readS 7 0, workS 6, readS 7 1, workS 10] else if c / 8 % 2 = 0 then wordS ++ [workS 8, writeS 7 2, workS 6, workS 5] else wordS ++ [workS 8, readS 7 0, workS 6, workS 9]
def loadsS (ix c : Int) : List Stp := if c = 118 then [workS 20] else if c % 8 = 6 then placeS ix ++ [readS 1 0, workS 17] else if c / 8 % 8 = 6 then placeS ix ++ [writeS 1 6] else [workS 21]
def sumsS (ix c : Int) : List Stp := if c % 8 = 6 then placeS ix ++ [readS 1 0, workS 22] else [workS 23]
def callS : List Stp := [waitS 1 9, writeS 5 7, writeS 5 8, workS 29]
def returnsS (c : Int) : List Stp := if c / 16 % 4 = 0 then [readS 4 0, readS 4 1, workS 24] else if c / 16 % 4 = 1 then [workS 26] else if c / 16 % 4 = 2 then [workS 27] else [waitS 2 8, workS 28]
def portsS (c : Int) : List Stp := if c / 8 % 8 = 0 then wordS ++ [workS 8, workS 29] else if c / 8 % 8 = 2 then [readS 0 0, workS 30, ((4, 7, 2, 4) : Stp), workS 6, workS 5] else if c / 8 % 8 = 3 then [readS 0 0, workS 30, ((3, 7, 0, 4) : Stp), workS 6, workS 9] else if c / 8 % 8 = 4 then [readS 4 0, readS 6 1, waitS 1 9, writeS 6 3, writeS 5 4, waitS 2 9, workS 31] else if c / 8 % 8 = 5 then [workS 32] else if c / 8 % 8 = 6 then [workS 33] else if c / 8 % 8 = 7 then [workS 34] else []
def lastS (c : Int) : List Stp := if c % 8 = 0 then [waitS 1 8, unlessS 0, readS 4 0, readS 4 1, workS 24] else if c % 8 = 1 then (if c / 8 % 2 = 0 then [readS 4 0, readS 4 1, workS 25] else returnsS c) else if c % 8 = 2 then wordS ++ [workS 8, unlessS 0, workS 29] else if c % 8 = 3 then portsS c else if c % 8 = 4 then wordS ++ [workS 8, unlessS 0] ++ callS else if c % 8 = 5 then (if c / 8 % 2 = 0 then [waitS 1 8, writeS 5 11, writeS 5 12] else if c / 16 % 4 = 0 then wordS ++ [workS 8] ++ callS else []) else if c % 8 = 6 then [readS 0 0, workS 22] else [waitS 1 8, writeS 5 7, writeS 5 8, workS 35]
def bitsS (c : Int) : List Stp := if c % 8 = 6 then [readS 1 0, waitS 1 9, workS 36] ++ (if c / 64 = 1 then [] else [writeS 1 0]) else [workS 37]
def indexedS (c : Int) : List Stp := [readS 1 0, waitS 1 9, workS 36] ++ (if c / 64 = 1 then [] else [workS 38, writeS 1 0])
def specialsS (c : Int) : List Stp := if c / 8 % 8 < 4 then [waitS 1 8, workS (46 + c / 8 % 8)] else if c / 8 % 8 < 6 then [readS 1 0, waitS 4 9, workS (50 + (c / 8 % 8 - 4)), writeS 1 0] else []
def blocksS (c : Int) : List Stp := (if c % 8 = 0 then [readS 1 0, writeS 3 0, waitS 2 9, workS 52] else if c % 8 = 1 then [readS 1 0, waitS 5 9, workS 53] else if c % 8 = 2 then [waitS 1 8, ((3, 2, 0, 4) : Stp), writeS 1 0, workS 54] else [waitS 1 8, readS 1 0, workS 55, ((4, 2, 0, 4) : Stp), workS 56]) ++ (if c / 8 % 8 < 6 then [] else [unlessS 3, waitS 5 9, workS (if c % 8 < 2 then 57 else 58)])
def secondS (c : Int) : List Stp := if c / 64 = 2 ∧ 4 ≤ c / 8 % 8 ∧ c % 8 ≤ 3 then blocksS c else if c / 64 ≠ 1 then [] else if c % 8 = 0 then [((3, 2, 0, 4) : Stp), workS 40, workS 39] else if c % 8 = 1 then [((4, 2, 13, 4) : Stp), workS 40] else if c % 8 = 2 then [waitS 7 8, workS (41 + c / 8 % 2)] else if c % 8 = 3 then wordS ++ [workS 8] ++ (if c / 8 % 2 = 0 then [writeS 7 10, workS 6, writeS 7 9] else [readS 7 0, workS 6, readS 7 1, workS 3]) else if c % 8 = 4 then [workS 43] else if c % 8 = 5 then [readS 4 0, readS 4 1, workS 24, workS 44] else if c % 8 = 6 then [workS 45] else specialsS c
def firstS (ix c : Int) : List Stp := if c % 8 = 0 then jumpsS c else if c % 8 = 1 then (if c / 8 % 2 = 0 then wordS ++ [workS 3] else [waitS 7 8, workS 4]) else if c % 8 = 2 then movesS c else if c % 8 = 3 then [waitS 2 8, workS (11 + c / 8 % 2)] else if c % 8 = 4 ∨ c % 8 = 5 then (if c / 8 % 8 ≠ 6 then [workS (13 + (c % 8 - 4))] else placeS ix ++ [readS 1 0, waitS 1 9, workS (15 + (c % 8 - 4)), writeS 1 0]) else if c % 8 = 6 then (if c / 8 % 8 ≠ 6 then [readS 0 0, workS 17] else if ix = 0 then [readS 0 0, writeS 1 0] else wordS ++ [waitS 2 9, workS 18, writeS 1 1]) else [workS 19]
def index (ix : Int) : Int := if ix ≠ 1 ∧ ix ≠ 2 then 0 else ix
def programS (set ix c : Int) : List Stp := if set = 0 then (if c / 64 = 0 then firstS (index ix) c else if c / 64 = 1 then loadsS (index ix) c else if c / 64 = 2 then sumsS (index ix) c else lastS c) else if set = 1 then bitsS c else if set = 2 then secondS c else if set = 3 then indexedS c else []
end Mi
set_option maxRecDepth 100000 in
set_option maxHeartbeats 2000000 in
theorem call_any  (base n : Nat) (v : Value) (xs : List Value) (w : World) (ho : w.ownsRow base 65 4 v n xs) (hb : base ≤ w.heap.size) (hx0 : xs.length ≤ 4400) :
    Calls Tryz.prog 104 #[v] w (Next_ base w v xs (flat (Mi.callS))) := by
  have HS := Lib.hid (St.refl ho hb)
  clear ho hb
  go_enter Tryz.func104, Tryz.ntmps104
  go_wp2_with (first
    | (go_at_call 99; refine (read_step _ _ _).mono ?_; rintro e w' ⟨rfl, hb⟩; have HS := Lib.hid (HS.out.below hb); clear hb)
    | (go_at_call 100; refine (write_step _ _ _).mono ?_; rintro e w' ⟨rfl, hb⟩; have HS := Lib.hid (HS.out.below hb); clear hb)
    | (go_at_call 95; refine (wait_any _ _ _).mono ?_; rintro e w' ⟨rfl, hb⟩; have HS := Lib.hid (HS.out.below hb); clear hb)
    | (go_at_call 94; refine (work_any _ _).mono ?_; rintro e w' ⟨rfl, hb⟩; have HS := Lib.hid (HS.out.below hb); clear hb)
    | (go_at_call 101; refine (unless_any _ _).mono ?_; rintro e w' ⟨rfl, hb⟩; have HS := Lib.hid (HS.out.below hb); clear hb)
    | (go_at_call 92; refine (more_st HS.out _ _ (by omega) (by simp [flat_len, Mi.wordS, Mi.placeS]; try (split <;> simp)) (by omega) (by omega) rfl (by simp [Value.oneCell'])).mono ?_; rintro e w' ⟨v1, rfl, hs⟩; have HS := Lib.hid hs; clear hs))
  go_ret
  exact ⟨_, rfl, HS.out.cast (by simp [Mi.callS, flat, stp, Mi.readS, Mi.writeS, Mi.waitS, Mi.workS, Mi.unlessS])⟩
set_option maxRecDepth 100000 in
set_option maxHeartbeats 2000000 in
theorem jumps_any (c : Int) (base n : Nat) (v : Value) (xs : List Value) (w : World) (ho : w.ownsRow base 65 4 v n xs) (hb : base ≤ w.heap.size) (hx0 : xs.length ≤ 4000) (h0 : 0 ≤ c) (h1 : c ≤ 255) :
    Calls Tryz.prog 90 #[v, .int .u8 c] w (Next_ base w v xs (flat (Mi.jumpsS c))) := by
  have HS := Lib.hid (St.refl ho hb)
  clear ho hb
  have key : (c / 8 % 8 = 0) ∨ (c / 8 % 8 = 1) ∨ (c / 8 % 8 = 2) ∨ (c / 8 % 8 = 3) ∨ (c / 8 % 8 = 4) ∨ (c / 8 % 8 = 5) ∨ (c / 8 % 8 = 6) ∨ (c / 8 % 8 = 7) := by omega
  rcases key with k0 | k0 | k0 | k0 | k0 | k0 | k0 | k0
  · skip
    go_enter Tryz.func90, Tryz.ntmps90
    go_wp2_with (first
      | (go_at_call 97; refine (y_any _ _ h0 h1).mono ?_; rintro e w' ⟨rfl, rfl⟩)
      | (go_at_call 99; refine (read_step _ _ _).mono ?_; rintro e w' ⟨rfl, hb⟩; have HS := Lib.hid (HS.out.below hb); clear hb)
      | (go_at_call 100; refine (write_step _ _ _).mono ?_; rintro e w' ⟨rfl, hb⟩; have HS := Lib.hid (HS.out.below hb); clear hb)
      | (go_at_call 95; refine (wait_any _ _ _).mono ?_; rintro e w' ⟨rfl, hb⟩; have HS := Lib.hid (HS.out.below hb); clear hb)
      | (go_at_call 94; refine (work_any _ _).mono ?_; rintro e w' ⟨rfl, hb⟩; have HS := Lib.hid (HS.out.below hb); clear hb)
      | (go_at_call 101; refine (unless_any _ _).mono ?_; rintro e w' ⟨rfl, hb⟩; have HS := Lib.hid (HS.out.below hb); clear hb)
      | (go_at_call 92; refine (more_st HS.out _ _ (by omega) (by simp [flat_len, Mi.wordS, Mi.placeS]; try (split <;> simp)) (by omega) (by omega) rfl (by simp [Value.oneCell'])).mono ?_; rintro e w' ⟨v1, rfl, hs⟩; have HS := Lib.hid hs; clear hs))
    go_ret
    exact ⟨_, rfl, HS.out.cast (by simp [Mi.jumpsS, flat, stp, Mi.readS, Mi.writeS, Mi.waitS, Mi.workS, Mi.unlessS, k0])⟩
  · skip
    go_enter Tryz.func90, Tryz.ntmps90
    go_wp2_with (first
      | (go_at_call 97; refine (y_any _ _ h0 h1).mono ?_; rintro e w' ⟨rfl, rfl⟩)
      | (go_at_call 99; refine (read_step _ _ _).mono ?_; rintro e w' ⟨rfl, hb⟩; have HS := Lib.hid (HS.out.below hb); clear hb)
      | (go_at_call 100; refine (write_step _ _ _).mono ?_; rintro e w' ⟨rfl, hb⟩; have HS := Lib.hid (HS.out.below hb); clear hb)
      | (go_at_call 95; refine (wait_any _ _ _).mono ?_; rintro e w' ⟨rfl, hb⟩; have HS := Lib.hid (HS.out.below hb); clear hb)
      | (go_at_call 94; refine (work_any _ _).mono ?_; rintro e w' ⟨rfl, hb⟩; have HS := Lib.hid (HS.out.below hb); clear hb)
      | (go_at_call 101; refine (unless_any _ _).mono ?_; rintro e w' ⟨rfl, hb⟩; have HS := Lib.hid (HS.out.below hb); clear hb)
      | (go_at_call 92; refine (more_st HS.out _ _ (by omega) (by simp [flat_len, Mi.wordS, Mi.placeS]; try (split <;> simp)) (by omega) (by omega) rfl (by simp [Value.oneCell'])).mono ?_; rintro e w' ⟨v1, rfl, hs⟩; have HS := Lib.hid hs; clear hs))
    go_ret
    exact ⟨_, rfl, HS.out.cast (by simp [Mi.jumpsS, flat, stp, Mi.readS, Mi.writeS, Mi.waitS, Mi.workS, Mi.unlessS, k0])⟩
  · skip
    go_enter Tryz.func90, Tryz.ntmps90
    go_wp2_with (first
      | (go_at_call 97; refine (y_any _ _ h0 h1).mono ?_; rintro e w' ⟨rfl, rfl⟩)
      | (go_at_call 99; refine (read_step _ _ _).mono ?_; rintro e w' ⟨rfl, hb⟩; have HS := Lib.hid (HS.out.below hb); clear hb)
      | (go_at_call 100; refine (write_step _ _ _).mono ?_; rintro e w' ⟨rfl, hb⟩; have HS := Lib.hid (HS.out.below hb); clear hb)
      | (go_at_call 95; refine (wait_any _ _ _).mono ?_; rintro e w' ⟨rfl, hb⟩; have HS := Lib.hid (HS.out.below hb); clear hb)
      | (go_at_call 94; refine (work_any _ _).mono ?_; rintro e w' ⟨rfl, hb⟩; have HS := Lib.hid (HS.out.below hb); clear hb)
      | (go_at_call 101; refine (unless_any _ _).mono ?_; rintro e w' ⟨rfl, hb⟩; have HS := Lib.hid (HS.out.below hb); clear hb)
      | (go_at_call 92; refine (more_st HS.out _ _ (by omega) (by simp [flat_len, Mi.wordS, Mi.placeS]; try (split <;> simp)) (by omega) (by omega) rfl (by simp [Value.oneCell'])).mono ?_; rintro e w' ⟨v1, rfl, hs⟩; have HS := Lib.hid hs; clear hs))
    go_ret
    exact ⟨_, rfl, HS.out.cast (by simp [Mi.jumpsS, flat, stp, Mi.readS, Mi.writeS, Mi.waitS, Mi.workS, Mi.unlessS, k0])⟩
  · skip
    go_enter Tryz.func90, Tryz.ntmps90
    go_wp2_with (first
      | (go_at_call 97; refine (y_any _ _ h0 h1).mono ?_; rintro e w' ⟨rfl, rfl⟩)
      | (go_at_call 99; refine (read_step _ _ _).mono ?_; rintro e w' ⟨rfl, hb⟩; have HS := Lib.hid (HS.out.below hb); clear hb)
      | (go_at_call 100; refine (write_step _ _ _).mono ?_; rintro e w' ⟨rfl, hb⟩; have HS := Lib.hid (HS.out.below hb); clear hb)
      | (go_at_call 95; refine (wait_any _ _ _).mono ?_; rintro e w' ⟨rfl, hb⟩; have HS := Lib.hid (HS.out.below hb); clear hb)
      | (go_at_call 94; refine (work_any _ _).mono ?_; rintro e w' ⟨rfl, hb⟩; have HS := Lib.hid (HS.out.below hb); clear hb)
      | (go_at_call 101; refine (unless_any _ _).mono ?_; rintro e w' ⟨rfl, hb⟩; have HS := Lib.hid (HS.out.below hb); clear hb)
      | (go_at_call 92; refine (more_st HS.out _ _ (by omega) (by simp [flat_len, Mi.wordS, Mi.placeS]; try (split <;> simp)) (by omega) (by omega) rfl (by simp [Value.oneCell'])).mono ?_; rintro e w' ⟨v1, rfl, hs⟩; have HS := Lib.hid hs; clear hs))
    go_ret
    exact ⟨_, rfl, HS.out.cast (by simp [Mi.jumpsS, flat, stp, Mi.readS, Mi.writeS, Mi.waitS, Mi.workS, Mi.unlessS, k0])⟩
  · skip
    go_enter Tryz.func90, Tryz.ntmps90
    go_wp2_with (first
      | (go_at_call 97; refine (y_any _ _ h0 h1).mono ?_; rintro e w' ⟨rfl, rfl⟩)
      | (go_at_call 99; refine (read_step _ _ _).mono ?_; rintro e w' ⟨rfl, hb⟩; have HS := Lib.hid (HS.out.below hb); clear hb)
      | (go_at_call 100; refine (write_step _ _ _).mono ?_; rintro e w' ⟨rfl, hb⟩; have HS := Lib.hid (HS.out.below hb); clear hb)
      | (go_at_call 95; refine (wait_any _ _ _).mono ?_; rintro e w' ⟨rfl, hb⟩; have HS := Lib.hid (HS.out.below hb); clear hb)
      | (go_at_call 94; refine (work_any _ _).mono ?_; rintro e w' ⟨rfl, hb⟩; have HS := Lib.hid (HS.out.below hb); clear hb)
      | (go_at_call 101; refine (unless_any _ _).mono ?_; rintro e w' ⟨rfl, hb⟩; have HS := Lib.hid (HS.out.below hb); clear hb)
      | (go_at_call 92; refine (more_st HS.out _ _ (by omega) (by simp [flat_len, Mi.wordS, Mi.placeS]; try (split <;> simp)) (by omega) (by omega) rfl (by simp [Value.oneCell'])).mono ?_; rintro e w' ⟨v1, rfl, hs⟩; have HS := Lib.hid hs; clear hs))
    go_ret
    exact ⟨_, rfl, HS.out.cast (by simp [Mi.jumpsS, flat, stp, Mi.readS, Mi.writeS, Mi.waitS, Mi.workS, Mi.unlessS, k0])⟩
  · skip
    go_enter Tryz.func90, Tryz.ntmps90
    go_wp2_with (first
      | (go_at_call 97; refine (y_any _ _ h0 h1).mono ?_; rintro e w' ⟨rfl, rfl⟩)
      | (go_at_call 99; refine (read_step _ _ _).mono ?_; rintro e w' ⟨rfl, hb⟩; have HS := Lib.hid (HS.out.below hb); clear hb)
      | (go_at_call 100; refine (write_step _ _ _).mono ?_; rintro e w' ⟨rfl, hb⟩; have HS := Lib.hid (HS.out.below hb); clear hb)
      | (go_at_call 95; refine (wait_any _ _ _).mono ?_; rintro e w' ⟨rfl, hb⟩; have HS := Lib.hid (HS.out.below hb); clear hb)
      | (go_at_call 94; refine (work_any _ _).mono ?_; rintro e w' ⟨rfl, hb⟩; have HS := Lib.hid (HS.out.below hb); clear hb)
      | (go_at_call 101; refine (unless_any _ _).mono ?_; rintro e w' ⟨rfl, hb⟩; have HS := Lib.hid (HS.out.below hb); clear hb)
      | (go_at_call 92; refine (more_st HS.out _ _ (by omega) (by simp [flat_len, Mi.wordS, Mi.placeS]; try (split <;> simp)) (by omega) (by omega) rfl (by simp [Value.oneCell'])).mono ?_; rintro e w' ⟨v1, rfl, hs⟩; have HS := Lib.hid hs; clear hs))
    go_ret
    exact ⟨_, rfl, HS.out.cast (by simp [Mi.jumpsS, flat, stp, Mi.readS, Mi.writeS, Mi.waitS, Mi.workS, Mi.unlessS, k0])⟩
  · skip
    go_enter Tryz.func90, Tryz.ntmps90
    go_wp2_with (first
      | (go_at_call 97; refine (y_any _ _ h0 h1).mono ?_; rintro e w' ⟨rfl, rfl⟩)
      | (go_at_call 99; refine (read_step _ _ _).mono ?_; rintro e w' ⟨rfl, hb⟩; have HS := Lib.hid (HS.out.below hb); clear hb)
      | (go_at_call 100; refine (write_step _ _ _).mono ?_; rintro e w' ⟨rfl, hb⟩; have HS := Lib.hid (HS.out.below hb); clear hb)
      | (go_at_call 95; refine (wait_any _ _ _).mono ?_; rintro e w' ⟨rfl, hb⟩; have HS := Lib.hid (HS.out.below hb); clear hb)
      | (go_at_call 94; refine (work_any _ _).mono ?_; rintro e w' ⟨rfl, hb⟩; have HS := Lib.hid (HS.out.below hb); clear hb)
      | (go_at_call 101; refine (unless_any _ _).mono ?_; rintro e w' ⟨rfl, hb⟩; have HS := Lib.hid (HS.out.below hb); clear hb)
      | (go_at_call 92; refine (more_st HS.out _ _ (by omega) (by simp [flat_len, Mi.wordS, Mi.placeS]; try (split <;> simp)) (by omega) (by omega) rfl (by simp [Value.oneCell'])).mono ?_; rintro e w' ⟨v1, rfl, hs⟩; have HS := Lib.hid hs; clear hs))
    go_ret
    exact ⟨_, rfl, HS.out.cast (by simp [Mi.jumpsS, flat, stp, Mi.readS, Mi.writeS, Mi.waitS, Mi.workS, Mi.unlessS, k0])⟩
  · skip
    go_enter Tryz.func90, Tryz.ntmps90
    go_wp2_with (first
      | (go_at_call 97; refine (y_any _ _ h0 h1).mono ?_; rintro e w' ⟨rfl, rfl⟩)
      | (go_at_call 99; refine (read_step _ _ _).mono ?_; rintro e w' ⟨rfl, hb⟩; have HS := Lib.hid (HS.out.below hb); clear hb)
      | (go_at_call 100; refine (write_step _ _ _).mono ?_; rintro e w' ⟨rfl, hb⟩; have HS := Lib.hid (HS.out.below hb); clear hb)
      | (go_at_call 95; refine (wait_any _ _ _).mono ?_; rintro e w' ⟨rfl, hb⟩; have HS := Lib.hid (HS.out.below hb); clear hb)
      | (go_at_call 94; refine (work_any _ _).mono ?_; rintro e w' ⟨rfl, hb⟩; have HS := Lib.hid (HS.out.below hb); clear hb)
      | (go_at_call 101; refine (unless_any _ _).mono ?_; rintro e w' ⟨rfl, hb⟩; have HS := Lib.hid (HS.out.below hb); clear hb)
      | (go_at_call 92; refine (more_st HS.out _ _ (by omega) (by simp [flat_len, Mi.wordS, Mi.placeS]; try (split <;> simp)) (by omega) (by omega) rfl (by simp [Value.oneCell'])).mono ?_; rintro e w' ⟨v1, rfl, hs⟩; have HS := Lib.hid hs; clear hs))
    go_ret
    exact ⟨_, rfl, HS.out.cast (by simp [Mi.jumpsS, flat, stp, Mi.readS, Mi.writeS, Mi.waitS, Mi.workS, Mi.unlessS, k0])⟩
set_option maxRecDepth 100000 in
set_option maxHeartbeats 2000000 in
theorem sums_any (ix : Int) (c : Int) (base n : Nat) (v : Value) (xs : List Value) (w : World) (ho : w.ownsRow base 65 4 v n xs) (hb : base ≤ w.heap.size) (hx0 : xs.length ≤ 4000) (h0 : 0 ≤ c) (h1 : c ≤ 255) :
    Calls Tryz.prog 57 #[v, .int .i64 ix, .int .u8 c] w (Next_ base w v xs (flat (Mi.sumsS ix c))) := by
  have HS := Lib.hid (St.refl ho hb)
  clear ho hb
  have key : (c % 8 = 6) ∨ (c % 8 ≠ 6) := by omega
  rcases key with k0 | k0
  · skip
    go_enter Tryz.func57, Tryz.ntmps57
    go_wp2_with (first
      | (go_at_call 89; refine (z_any _ _ h0 h1).mono ?_; rintro e w' ⟨rfl, rfl⟩)
      | (go_at_call 98; refine (HS.out.call (by omega) (by simp [flat_len, Mi.wordS]) fun n ho hb hx => place_any _ base n _ _ _ ho hb hx).mono ?_; rintro e w' ⟨v1, rfl, hs⟩; have HS := Lib.hid hs; clear hs)
      | (go_at_call 99; refine (read_step _ _ _).mono ?_; rintro e w' ⟨rfl, hb⟩; have HS := Lib.hid (HS.out.below hb); clear hb)
      | (go_at_call 100; refine (write_step _ _ _).mono ?_; rintro e w' ⟨rfl, hb⟩; have HS := Lib.hid (HS.out.below hb); clear hb)
      | (go_at_call 95; refine (wait_any _ _ _).mono ?_; rintro e w' ⟨rfl, hb⟩; have HS := Lib.hid (HS.out.below hb); clear hb)
      | (go_at_call 94; refine (work_any _ _).mono ?_; rintro e w' ⟨rfl, hb⟩; have HS := Lib.hid (HS.out.below hb); clear hb)
      | (go_at_call 101; refine (unless_any _ _).mono ?_; rintro e w' ⟨rfl, hb⟩; have HS := Lib.hid (HS.out.below hb); clear hb)
      | (go_at_call 92; refine (more_st HS.out _ _ (by omega) (by simp [flat_len, Mi.wordS, Mi.placeS]; try (split <;> simp)) (by omega) (by omega) rfl (by simp [Value.oneCell'])).mono ?_; rintro e w' ⟨v1, rfl, hs⟩; have HS := Lib.hid hs; clear hs))
    go_ret
    exact ⟨_, rfl, HS.out.cast (by simp [Mi.sumsS, flat, stp, Mi.readS, Mi.writeS, Mi.waitS, Mi.workS, Mi.unlessS, k0])⟩
  · skip
    have b0 : (c % 8 == 6) = false := by simpa using k0
    have d0 : (c % 8 != 6) = true := by simpa using k0
    go_enter Tryz.func57, Tryz.ntmps57
    go_wp2_with (first
      | (go_at_call 89; refine (z_any _ _ h0 h1).mono ?_; rintro e w' ⟨rfl, rfl⟩)
      | (go_at_call 98; refine (HS.out.call (by omega) (by simp [flat_len, Mi.wordS]) fun n ho hb hx => place_any _ base n _ _ _ ho hb hx).mono ?_; rintro e w' ⟨v1, rfl, hs⟩; have HS := Lib.hid hs; clear hs)
      | (go_at_call 99; refine (read_step _ _ _).mono ?_; rintro e w' ⟨rfl, hb⟩; have HS := Lib.hid (HS.out.below hb); clear hb)
      | (go_at_call 100; refine (write_step _ _ _).mono ?_; rintro e w' ⟨rfl, hb⟩; have HS := Lib.hid (HS.out.below hb); clear hb)
      | (go_at_call 95; refine (wait_any _ _ _).mono ?_; rintro e w' ⟨rfl, hb⟩; have HS := Lib.hid (HS.out.below hb); clear hb)
      | (go_at_call 94; refine (work_any _ _).mono ?_; rintro e w' ⟨rfl, hb⟩; have HS := Lib.hid (HS.out.below hb); clear hb)
      | (go_at_call 101; refine (unless_any _ _).mono ?_; rintro e w' ⟨rfl, hb⟩; have HS := Lib.hid (HS.out.below hb); clear hb)
      | (go_at_call 92; refine (more_st HS.out _ _ (by omega) (by simp [flat_len, Mi.wordS, Mi.placeS]; try (split <;> simp)) (by omega) (by omega) rfl (by simp [Value.oneCell'])).mono ?_; rintro e w' ⟨v1, rfl, hs⟩; have HS := Lib.hid hs; clear hs))
    go_ret
    exact ⟨_, rfl, HS.out.cast (by simp [Mi.sumsS, flat, stp, Mi.readS, Mi.writeS, Mi.waitS, Mi.workS, Mi.unlessS, k0])⟩
set_option maxRecDepth 100000 in
set_option maxHeartbeats 2000000 in
theorem moves_any (c : Int) (base n : Nat) (v : Value) (xs : List Value) (w : World) (ho : w.ownsRow base 65 4 v n xs) (hb : base ≤ w.heap.size) (hx0 : xs.length ≤ 4000) (h0 : 0 ≤ c) (h1 : c ≤ 255) :
    Calls Tryz.prog 96 #[v, .int .u8 c] w (Next_ base w v xs (flat (Mi.movesS c))) := by
  have HS := Lib.hid (St.refl ho hb)
  clear ho hb
  have key : (c / 16 % 4 = 0 ∧ c / 8 % 2 = 0) ∨ (c / 16 % 4 = 0 ∧ c / 8 % 2 = 1) ∨ (c / 16 % 4 = 1 ∧ c / 8 % 2 = 0) ∨ (c / 16 % 4 = 1 ∧ c / 8 % 2 = 1) ∨ (c / 16 % 4 = 2 ∧ c / 8 % 2 = 0) ∨ (c / 16 % 4 = 2 ∧ c / 8 % 2 = 1) ∨ (c / 16 % 4 = 3 ∧ c / 8 % 2 = 0) ∨ (c / 16 % 4 = 3 ∧ c / 8 % 2 = 1) := by omega
  rcases key with ⟨k0, k1⟩ | ⟨k0, k1⟩ | ⟨k0, k1⟩ | ⟨k0, k1⟩ | ⟨k0, k1⟩ | ⟨k0, k1⟩ | ⟨k0, k1⟩ | ⟨k0, k1⟩
  · skip
    go_enter Tryz.func96, Tryz.ntmps96
    go_wp2_with (first
      | (go_at_call 105; refine (p_any _ _ h0 h1).mono ?_; rintro e w' ⟨rfl, rfl⟩)
      | (go_at_call 91; refine (q_any _ _ h0 h1).mono ?_; rintro e w' ⟨rfl, rfl⟩)
      | (go_at_call 93; refine (HS.out.call (by omega) (by simp [flat_len, Mi.wordS]) fun n ho hb hx => word_any base n _ _ _ ho hb hx).mono ?_; rintro e w' ⟨v1, rfl, hs⟩; have HS := Lib.hid hs; clear hs)
      | (go_at_call 99; refine (read_step _ _ _).mono ?_; rintro e w' ⟨rfl, hb⟩; have HS := Lib.hid (HS.out.below hb); clear hb)
      | (go_at_call 100; refine (write_step _ _ _).mono ?_; rintro e w' ⟨rfl, hb⟩; have HS := Lib.hid (HS.out.below hb); clear hb)
      | (go_at_call 95; refine (wait_any _ _ _).mono ?_; rintro e w' ⟨rfl, hb⟩; have HS := Lib.hid (HS.out.below hb); clear hb)
      | (go_at_call 94; refine (work_any _ _).mono ?_; rintro e w' ⟨rfl, hb⟩; have HS := Lib.hid (HS.out.below hb); clear hb)
      | (go_at_call 101; refine (unless_any _ _).mono ?_; rintro e w' ⟨rfl, hb⟩; have HS := Lib.hid (HS.out.below hb); clear hb)
      | (go_at_call 92; refine (more_st HS.out _ _ (by omega) (by simp [flat_len, Mi.wordS, Mi.placeS]; try (split <;> simp)) (by omega) (by omega) rfl (by simp [Value.oneCell'])).mono ?_; rintro e w' ⟨v1, rfl, hs⟩; have HS := Lib.hid hs; clear hs))
    go_ret
    exact ⟨_, rfl, HS.out.cast (by simp [Mi.movesS, Mi.wordS, flat, stp, Mi.readS, Mi.writeS, Mi.waitS, Mi.workS, Mi.unlessS, k0, k1])⟩
  · skip
    go_enter Tryz.func96, Tryz.ntmps96
    go_wp2_with (first
      | (go_at_call 105; refine (p_any _ _ h0 h1).mono ?_; rintro e w' ⟨rfl, rfl⟩)
      | (go_at_call 91; refine (q_any _ _ h0 h1).mono ?_; rintro e w' ⟨rfl, rfl⟩)
      | (go_at_call 93; refine (HS.out.call (by omega) (by simp [flat_len, Mi.wordS]) fun n ho hb hx => word_any base n _ _ _ ho hb hx).mono ?_; rintro e w' ⟨v1, rfl, hs⟩; have HS := Lib.hid hs; clear hs)
      | (go_at_call 99; refine (read_step _ _ _).mono ?_; rintro e w' ⟨rfl, hb⟩; have HS := Lib.hid (HS.out.below hb); clear hb)
      | (go_at_call 100; refine (write_step _ _ _).mono ?_; rintro e w' ⟨rfl, hb⟩; have HS := Lib.hid (HS.out.below hb); clear hb)
      | (go_at_call 95; refine (wait_any _ _ _).mono ?_; rintro e w' ⟨rfl, hb⟩; have HS := Lib.hid (HS.out.below hb); clear hb)
      | (go_at_call 94; refine (work_any _ _).mono ?_; rintro e w' ⟨rfl, hb⟩; have HS := Lib.hid (HS.out.below hb); clear hb)
      | (go_at_call 101; refine (unless_any _ _).mono ?_; rintro e w' ⟨rfl, hb⟩; have HS := Lib.hid (HS.out.below hb); clear hb)
      | (go_at_call 92; refine (more_st HS.out _ _ (by omega) (by simp [flat_len, Mi.wordS, Mi.placeS]; try (split <;> simp)) (by omega) (by omega) rfl (by simp [Value.oneCell'])).mono ?_; rintro e w' ⟨v1, rfl, hs⟩; have HS := Lib.hid hs; clear hs))
    go_ret
    exact ⟨_, rfl, HS.out.cast (by simp [Mi.movesS, Mi.wordS, flat, stp, Mi.readS, Mi.writeS, Mi.waitS, Mi.workS, Mi.unlessS, k0, k1])⟩
  · skip
    go_enter Tryz.func96, Tryz.ntmps96
    go_wp2_with (first
      | (go_at_call 105; refine (p_any _ _ h0 h1).mono ?_; rintro e w' ⟨rfl, rfl⟩)
      | (go_at_call 91; refine (q_any _ _ h0 h1).mono ?_; rintro e w' ⟨rfl, rfl⟩)
      | (go_at_call 93; refine (HS.out.call (by omega) (by simp [flat_len, Mi.wordS]) fun n ho hb hx => word_any base n _ _ _ ho hb hx).mono ?_; rintro e w' ⟨v1, rfl, hs⟩; have HS := Lib.hid hs; clear hs)
      | (go_at_call 99; refine (read_step _ _ _).mono ?_; rintro e w' ⟨rfl, hb⟩; have HS := Lib.hid (HS.out.below hb); clear hb)
      | (go_at_call 100; refine (write_step _ _ _).mono ?_; rintro e w' ⟨rfl, hb⟩; have HS := Lib.hid (HS.out.below hb); clear hb)
      | (go_at_call 95; refine (wait_any _ _ _).mono ?_; rintro e w' ⟨rfl, hb⟩; have HS := Lib.hid (HS.out.below hb); clear hb)
      | (go_at_call 94; refine (work_any _ _).mono ?_; rintro e w' ⟨rfl, hb⟩; have HS := Lib.hid (HS.out.below hb); clear hb)
      | (go_at_call 101; refine (unless_any _ _).mono ?_; rintro e w' ⟨rfl, hb⟩; have HS := Lib.hid (HS.out.below hb); clear hb)
      | (go_at_call 92; refine (more_st HS.out _ _ (by omega) (by simp [flat_len, Mi.wordS, Mi.placeS]; try (split <;> simp)) (by omega) (by omega) rfl (by simp [Value.oneCell'])).mono ?_; rintro e w' ⟨v1, rfl, hs⟩; have HS := Lib.hid hs; clear hs))
    go_ret
    exact ⟨_, rfl, HS.out.cast (by simp [Mi.movesS, Mi.wordS, flat, stp, Mi.readS, Mi.writeS, Mi.waitS, Mi.workS, Mi.unlessS, k0, k1])⟩
  · skip
    go_enter Tryz.func96, Tryz.ntmps96
    go_wp2_with (first
      | (go_at_call 105; refine (p_any _ _ h0 h1).mono ?_; rintro e w' ⟨rfl, rfl⟩)
      | (go_at_call 91; refine (q_any _ _ h0 h1).mono ?_; rintro e w' ⟨rfl, rfl⟩)
      | (go_at_call 93; refine (HS.out.call (by omega) (by simp [flat_len, Mi.wordS]) fun n ho hb hx => word_any base n _ _ _ ho hb hx).mono ?_; rintro e w' ⟨v1, rfl, hs⟩; have HS := Lib.hid hs; clear hs)
      | (go_at_call 99; refine (read_step _ _ _).mono ?_; rintro e w' ⟨rfl, hb⟩; have HS := Lib.hid (HS.out.below hb); clear hb)
      | (go_at_call 100; refine (write_step _ _ _).mono ?_; rintro e w' ⟨rfl, hb⟩; have HS := Lib.hid (HS.out.below hb); clear hb)
      | (go_at_call 95; refine (wait_any _ _ _).mono ?_; rintro e w' ⟨rfl, hb⟩; have HS := Lib.hid (HS.out.below hb); clear hb)
      | (go_at_call 94; refine (work_any _ _).mono ?_; rintro e w' ⟨rfl, hb⟩; have HS := Lib.hid (HS.out.below hb); clear hb)
      | (go_at_call 101; refine (unless_any _ _).mono ?_; rintro e w' ⟨rfl, hb⟩; have HS := Lib.hid (HS.out.below hb); clear hb)
      | (go_at_call 92; refine (more_st HS.out _ _ (by omega) (by simp [flat_len, Mi.wordS, Mi.placeS]; try (split <;> simp)) (by omega) (by omega) rfl (by simp [Value.oneCell'])).mono ?_; rintro e w' ⟨v1, rfl, hs⟩; have HS := Lib.hid hs; clear hs))
    go_ret
    exact ⟨_, rfl, HS.out.cast (by simp [Mi.movesS, Mi.wordS, flat, stp, Mi.readS, Mi.writeS, Mi.waitS, Mi.workS, Mi.unlessS, k0, k1])⟩
  · skip
    go_enter Tryz.func96, Tryz.ntmps96
    go_wp2_with (first
      | (go_at_call 105; refine (p_any _ _ h0 h1).mono ?_; rintro e w' ⟨rfl, rfl⟩)
      | (go_at_call 91; refine (q_any _ _ h0 h1).mono ?_; rintro e w' ⟨rfl, rfl⟩)
      | (go_at_call 93; refine (HS.out.call (by omega) (by simp [flat_len, Mi.wordS]) fun n ho hb hx => word_any base n _ _ _ ho hb hx).mono ?_; rintro e w' ⟨v1, rfl, hs⟩; have HS := Lib.hid hs; clear hs)
      | (go_at_call 99; refine (read_step _ _ _).mono ?_; rintro e w' ⟨rfl, hb⟩; have HS := Lib.hid (HS.out.below hb); clear hb)
      | (go_at_call 100; refine (write_step _ _ _).mono ?_; rintro e w' ⟨rfl, hb⟩; have HS := Lib.hid (HS.out.below hb); clear hb)
      | (go_at_call 95; refine (wait_any _ _ _).mono ?_; rintro e w' ⟨rfl, hb⟩; have HS := Lib.hid (HS.out.below hb); clear hb)
      | (go_at_call 94; refine (work_any _ _).mono ?_; rintro e w' ⟨rfl, hb⟩; have HS := Lib.hid (HS.out.below hb); clear hb)
      | (go_at_call 101; refine (unless_any _ _).mono ?_; rintro e w' ⟨rfl, hb⟩; have HS := Lib.hid (HS.out.below hb); clear hb)
      | (go_at_call 92; refine (more_st HS.out _ _ (by omega) (by simp [flat_len, Mi.wordS, Mi.placeS]; try (split <;> simp)) (by omega) (by omega) rfl (by simp [Value.oneCell'])).mono ?_; rintro e w' ⟨v1, rfl, hs⟩; have HS := Lib.hid hs; clear hs))
    go_ret
    exact ⟨_, rfl, HS.out.cast (by simp [Mi.movesS, Mi.wordS, flat, stp, Mi.readS, Mi.writeS, Mi.waitS, Mi.workS, Mi.unlessS, k0, k1])⟩
  · skip
    go_enter Tryz.func96, Tryz.ntmps96
    go_wp2_with (first
      | (go_at_call 105; refine (p_any _ _ h0 h1).mono ?_; rintro e w' ⟨rfl, rfl⟩)
      | (go_at_call 91; refine (q_any _ _ h0 h1).mono ?_; rintro e w' ⟨rfl, rfl⟩)
      | (go_at_call 93; refine (HS.out.call (by omega) (by simp [flat_len, Mi.wordS]) fun n ho hb hx => word_any base n _ _ _ ho hb hx).mono ?_; rintro e w' ⟨v1, rfl, hs⟩; have HS := Lib.hid hs; clear hs)
      | (go_at_call 99; refine (read_step _ _ _).mono ?_; rintro e w' ⟨rfl, hb⟩; have HS := Lib.hid (HS.out.below hb); clear hb)
      | (go_at_call 100; refine (write_step _ _ _).mono ?_; rintro e w' ⟨rfl, hb⟩; have HS := Lib.hid (HS.out.below hb); clear hb)
      | (go_at_call 95; refine (wait_any _ _ _).mono ?_; rintro e w' ⟨rfl, hb⟩; have HS := Lib.hid (HS.out.below hb); clear hb)
      | (go_at_call 94; refine (work_any _ _).mono ?_; rintro e w' ⟨rfl, hb⟩; have HS := Lib.hid (HS.out.below hb); clear hb)
      | (go_at_call 101; refine (unless_any _ _).mono ?_; rintro e w' ⟨rfl, hb⟩; have HS := Lib.hid (HS.out.below hb); clear hb)
      | (go_at_call 92; refine (more_st HS.out _ _ (by omega) (by simp [flat_len, Mi.wordS, Mi.placeS]; try (split <;> simp)) (by omega) (by omega) rfl (by simp [Value.oneCell'])).mono ?_; rintro e w' ⟨v1, rfl, hs⟩; have HS := Lib.hid hs; clear hs))
    go_ret
    exact ⟨_, rfl, HS.out.cast (by simp [Mi.movesS, Mi.wordS, flat, stp, Mi.readS, Mi.writeS, Mi.waitS, Mi.workS, Mi.unlessS, k0, k1])⟩
  · skip
    go_enter Tryz.func96, Tryz.ntmps96
    go_wp2_with (first
      | (go_at_call 105; refine (p_any _ _ h0 h1).mono ?_; rintro e w' ⟨rfl, rfl⟩)
      | (go_at_call 91; refine (q_any _ _ h0 h1).mono ?_; rintro e w' ⟨rfl, rfl⟩)
      | (go_at_call 93; refine (HS.out.call (by omega) (by simp [flat_len, Mi.wordS]) fun n ho hb hx => word_any base n _ _ _ ho hb hx).mono ?_; rintro e w' ⟨v1, rfl, hs⟩; have HS := Lib.hid hs; clear hs)
      | (go_at_call 99; refine (read_step _ _ _).mono ?_; rintro e w' ⟨rfl, hb⟩; have HS := Lib.hid (HS.out.below hb); clear hb)
      | (go_at_call 100; refine (write_step _ _ _).mono ?_; rintro e w' ⟨rfl, hb⟩; have HS := Lib.hid (HS.out.below hb); clear hb)
      | (go_at_call 95; refine (wait_any _ _ _).mono ?_; rintro e w' ⟨rfl, hb⟩; have HS := Lib.hid (HS.out.below hb); clear hb)
      | (go_at_call 94; refine (work_any _ _).mono ?_; rintro e w' ⟨rfl, hb⟩; have HS := Lib.hid (HS.out.below hb); clear hb)
      | (go_at_call 101; refine (unless_any _ _).mono ?_; rintro e w' ⟨rfl, hb⟩; have HS := Lib.hid (HS.out.below hb); clear hb)
      | (go_at_call 92; refine (more_st HS.out _ _ (by omega) (by simp [flat_len, Mi.wordS, Mi.placeS]; try (split <;> simp)) (by omega) (by omega) rfl (by simp [Value.oneCell'])).mono ?_; rintro e w' ⟨v1, rfl, hs⟩; have HS := Lib.hid hs; clear hs))
    go_ret
    exact ⟨_, rfl, HS.out.cast (by simp [Mi.movesS, Mi.wordS, flat, stp, Mi.readS, Mi.writeS, Mi.waitS, Mi.workS, Mi.unlessS, k0, k1])⟩
  · skip
    go_enter Tryz.func96, Tryz.ntmps96
    go_wp2_with (first
      | (go_at_call 105; refine (p_any _ _ h0 h1).mono ?_; rintro e w' ⟨rfl, rfl⟩)
      | (go_at_call 91; refine (q_any _ _ h0 h1).mono ?_; rintro e w' ⟨rfl, rfl⟩)
      | (go_at_call 93; refine (HS.out.call (by omega) (by simp [flat_len, Mi.wordS]) fun n ho hb hx => word_any base n _ _ _ ho hb hx).mono ?_; rintro e w' ⟨v1, rfl, hs⟩; have HS := Lib.hid hs; clear hs)
      | (go_at_call 99; refine (read_step _ _ _).mono ?_; rintro e w' ⟨rfl, hb⟩; have HS := Lib.hid (HS.out.below hb); clear hb)
      | (go_at_call 100; refine (write_step _ _ _).mono ?_; rintro e w' ⟨rfl, hb⟩; have HS := Lib.hid (HS.out.below hb); clear hb)
      | (go_at_call 95; refine (wait_any _ _ _).mono ?_; rintro e w' ⟨rfl, hb⟩; have HS := Lib.hid (HS.out.below hb); clear hb)
      | (go_at_call 94; refine (work_any _ _).mono ?_; rintro e w' ⟨rfl, hb⟩; have HS := Lib.hid (HS.out.below hb); clear hb)
      | (go_at_call 101; refine (unless_any _ _).mono ?_; rintro e w' ⟨rfl, hb⟩; have HS := Lib.hid (HS.out.below hb); clear hb)
      | (go_at_call 92; refine (more_st HS.out _ _ (by omega) (by simp [flat_len, Mi.wordS, Mi.placeS]; try (split <;> simp)) (by omega) (by omega) rfl (by simp [Value.oneCell'])).mono ?_; rintro e w' ⟨v1, rfl, hs⟩; have HS := Lib.hid hs; clear hs))
    go_ret
    exact ⟨_, rfl, HS.out.cast (by simp [Mi.movesS, Mi.wordS, flat, stp, Mi.readS, Mi.writeS, Mi.waitS, Mi.workS, Mi.unlessS, k0, k1])⟩
set_option maxRecDepth 100000 in
set_option maxHeartbeats 2000000 in
theorem loads_any (ix : Int) (c : Int) (base n : Nat) (v : Value) (xs : List Value) (w : World) (ho : w.ownsRow base 65 4 v n xs) (hb : base ≤ w.heap.size) (hx0 : xs.length ≤ 4000) (h0 : 0 ≤ c) (h1 : c ≤ 255) :
    Calls Tryz.prog 56 #[v, .int .i64 ix, .int .u8 c] w (Next_ base w v xs (flat (Mi.loadsS ix c))) := by
  have HS := Lib.hid (St.refl ho hb)
  clear ho hb
  have key : (c = 118) ∨ (c ≠ 118 ∧ c % 8 = 6) ∨ (c ≠ 118 ∧ c % 8 ≠ 6 ∧ c / 8 % 8 = 6) ∨ (c ≠ 118 ∧ c % 8 ≠ 6 ∧ c / 8 % 8 ≠ 6) := by omega
  rcases key with k0 | ⟨k0, k1⟩ | ⟨k0, k1, k2⟩ | ⟨k0, k1, k2⟩
  · skip
    go_enter Tryz.func56, Tryz.ntmps56
    go_wp2_with (first
      | (go_at_call 89; refine (z_any _ _ h0 h1).mono ?_; rintro e w' ⟨rfl, rfl⟩)
      | (go_at_call 97; refine (y_any _ _ h0 h1).mono ?_; rintro e w' ⟨rfl, rfl⟩)
      | (go_at_call 98; refine (HS.out.call (by omega) (by simp [flat_len, Mi.wordS]) fun n ho hb hx => place_any _ base n _ _ _ ho hb hx).mono ?_; rintro e w' ⟨v1, rfl, hs⟩; have HS := Lib.hid hs; clear hs)
      | (go_at_call 99; refine (read_step _ _ _).mono ?_; rintro e w' ⟨rfl, hb⟩; have HS := Lib.hid (HS.out.below hb); clear hb)
      | (go_at_call 100; refine (write_step _ _ _).mono ?_; rintro e w' ⟨rfl, hb⟩; have HS := Lib.hid (HS.out.below hb); clear hb)
      | (go_at_call 95; refine (wait_any _ _ _).mono ?_; rintro e w' ⟨rfl, hb⟩; have HS := Lib.hid (HS.out.below hb); clear hb)
      | (go_at_call 94; refine (work_any _ _).mono ?_; rintro e w' ⟨rfl, hb⟩; have HS := Lib.hid (HS.out.below hb); clear hb)
      | (go_at_call 101; refine (unless_any _ _).mono ?_; rintro e w' ⟨rfl, hb⟩; have HS := Lib.hid (HS.out.below hb); clear hb)
      | (go_at_call 92; refine (more_st HS.out _ _ (by omega) (by simp [flat_len, Mi.wordS, Mi.placeS]; try (split <;> simp)) (by omega) (by omega) rfl (by simp [Value.oneCell'])).mono ?_; rintro e w' ⟨v1, rfl, hs⟩; have HS := Lib.hid hs; clear hs))
    go_ret
    exact ⟨_, rfl, HS.out.cast (by simp [Mi.loadsS, flat, stp, Mi.readS, Mi.writeS, Mi.waitS, Mi.workS, Mi.unlessS, k0])⟩
  · skip
    have b0 : (c == 118) = false := by simpa using k0
    have d0 : (c != 118) = true := by simpa using k0
    go_enter Tryz.func56, Tryz.ntmps56
    go_wp2_with (first
      | (go_at_call 89; refine (z_any _ _ h0 h1).mono ?_; rintro e w' ⟨rfl, rfl⟩)
      | (go_at_call 97; refine (y_any _ _ h0 h1).mono ?_; rintro e w' ⟨rfl, rfl⟩)
      | (go_at_call 98; refine (HS.out.call (by omega) (by simp [flat_len, Mi.wordS]) fun n ho hb hx => place_any _ base n _ _ _ ho hb hx).mono ?_; rintro e w' ⟨v1, rfl, hs⟩; have HS := Lib.hid hs; clear hs)
      | (go_at_call 99; refine (read_step _ _ _).mono ?_; rintro e w' ⟨rfl, hb⟩; have HS := Lib.hid (HS.out.below hb); clear hb)
      | (go_at_call 100; refine (write_step _ _ _).mono ?_; rintro e w' ⟨rfl, hb⟩; have HS := Lib.hid (HS.out.below hb); clear hb)
      | (go_at_call 95; refine (wait_any _ _ _).mono ?_; rintro e w' ⟨rfl, hb⟩; have HS := Lib.hid (HS.out.below hb); clear hb)
      | (go_at_call 94; refine (work_any _ _).mono ?_; rintro e w' ⟨rfl, hb⟩; have HS := Lib.hid (HS.out.below hb); clear hb)
      | (go_at_call 101; refine (unless_any _ _).mono ?_; rintro e w' ⟨rfl, hb⟩; have HS := Lib.hid (HS.out.below hb); clear hb)
      | (go_at_call 92; refine (more_st HS.out _ _ (by omega) (by simp [flat_len, Mi.wordS, Mi.placeS]; try (split <;> simp)) (by omega) (by omega) rfl (by simp [Value.oneCell'])).mono ?_; rintro e w' ⟨v1, rfl, hs⟩; have HS := Lib.hid hs; clear hs))
    go_ret
    exact ⟨_, rfl, HS.out.cast (by simp [Mi.loadsS, flat, stp, Mi.readS, Mi.writeS, Mi.waitS, Mi.workS, Mi.unlessS, k0, k1])⟩
  · skip
    have b0 : (c == 118) = false := by simpa using k0
    have d0 : (c != 118) = true := by simpa using k0
    have b1 : (c % 8 == 6) = false := by simpa using k1
    have d1 : (c % 8 != 6) = true := by simpa using k1
    go_enter Tryz.func56, Tryz.ntmps56
    go_wp2_with (first
      | (go_at_call 89; refine (z_any _ _ h0 h1).mono ?_; rintro e w' ⟨rfl, rfl⟩)
      | (go_at_call 97; refine (y_any _ _ h0 h1).mono ?_; rintro e w' ⟨rfl, rfl⟩)
      | (go_at_call 98; refine (HS.out.call (by omega) (by simp [flat_len, Mi.wordS]) fun n ho hb hx => place_any _ base n _ _ _ ho hb hx).mono ?_; rintro e w' ⟨v1, rfl, hs⟩; have HS := Lib.hid hs; clear hs)
      | (go_at_call 99; refine (read_step _ _ _).mono ?_; rintro e w' ⟨rfl, hb⟩; have HS := Lib.hid (HS.out.below hb); clear hb)
      | (go_at_call 100; refine (write_step _ _ _).mono ?_; rintro e w' ⟨rfl, hb⟩; have HS := Lib.hid (HS.out.below hb); clear hb)
      | (go_at_call 95; refine (wait_any _ _ _).mono ?_; rintro e w' ⟨rfl, hb⟩; have HS := Lib.hid (HS.out.below hb); clear hb)
      | (go_at_call 94; refine (work_any _ _).mono ?_; rintro e w' ⟨rfl, hb⟩; have HS := Lib.hid (HS.out.below hb); clear hb)
      | (go_at_call 101; refine (unless_any _ _).mono ?_; rintro e w' ⟨rfl, hb⟩; have HS := Lib.hid (HS.out.below hb); clear hb)
      | (go_at_call 92; refine (more_st HS.out _ _ (by omega) (by simp [flat_len, Mi.wordS, Mi.placeS]; try (split <;> simp)) (by omega) (by omega) rfl (by simp [Value.oneCell'])).mono ?_; rintro e w' ⟨v1, rfl, hs⟩; have HS := Lib.hid hs; clear hs))
    go_ret
    exact ⟨_, rfl, HS.out.cast (by simp [Mi.loadsS, flat, stp, Mi.readS, Mi.writeS, Mi.waitS, Mi.workS, Mi.unlessS, k0, k1, k2])⟩
  · skip
    have b0 : (c == 118) = false := by simpa using k0
    have d0 : (c != 118) = true := by simpa using k0
    have b1 : (c % 8 == 6) = false := by simpa using k1
    have d1 : (c % 8 != 6) = true := by simpa using k1
    have b2 : (c / 8 % 8 == 6) = false := by simpa using k2
    have d2 : (c / 8 % 8 != 6) = true := by simpa using k2
    go_enter Tryz.func56, Tryz.ntmps56
    go_wp2_with (first
      | (go_at_call 89; refine (z_any _ _ h0 h1).mono ?_; rintro e w' ⟨rfl, rfl⟩)
      | (go_at_call 97; refine (y_any _ _ h0 h1).mono ?_; rintro e w' ⟨rfl, rfl⟩)
      | (go_at_call 98; refine (HS.out.call (by omega) (by simp [flat_len, Mi.wordS]) fun n ho hb hx => place_any _ base n _ _ _ ho hb hx).mono ?_; rintro e w' ⟨v1, rfl, hs⟩; have HS := Lib.hid hs; clear hs)
      | (go_at_call 99; refine (read_step _ _ _).mono ?_; rintro e w' ⟨rfl, hb⟩; have HS := Lib.hid (HS.out.below hb); clear hb)
      | (go_at_call 100; refine (write_step _ _ _).mono ?_; rintro e w' ⟨rfl, hb⟩; have HS := Lib.hid (HS.out.below hb); clear hb)
      | (go_at_call 95; refine (wait_any _ _ _).mono ?_; rintro e w' ⟨rfl, hb⟩; have HS := Lib.hid (HS.out.below hb); clear hb)
      | (go_at_call 94; refine (work_any _ _).mono ?_; rintro e w' ⟨rfl, hb⟩; have HS := Lib.hid (HS.out.below hb); clear hb)
      | (go_at_call 101; refine (unless_any _ _).mono ?_; rintro e w' ⟨rfl, hb⟩; have HS := Lib.hid (HS.out.below hb); clear hb)
      | (go_at_call 92; refine (more_st HS.out _ _ (by omega) (by simp [flat_len, Mi.wordS, Mi.placeS]; try (split <;> simp)) (by omega) (by omega) rfl (by simp [Value.oneCell'])).mono ?_; rintro e w' ⟨v1, rfl, hs⟩; have HS := Lib.hid hs; clear hs))
    go_ret
    exact ⟨_, rfl, HS.out.cast (by simp [Mi.loadsS, flat, stp, Mi.readS, Mi.writeS, Mi.waitS, Mi.workS, Mi.unlessS, k0, k1, k2])⟩
set_option maxRecDepth 100000 in
set_option maxHeartbeats 2000000 in
theorem returns_any (c : Int) (base n : Nat) (v : Value) (xs : List Value) (w : World) (ho : w.ownsRow base 65 4 v n xs) (hb : base ≤ w.heap.size) (hx0 : xs.length ≤ 4000) (h0 : 0 ≤ c) (h1 : c ≤ 255) :
    Calls Tryz.prog 102 #[v, .int .u8 c] w (Next_ base w v xs (flat (Mi.returnsS c))) := by
  have HS := Lib.hid (St.refl ho hb)
  clear ho hb
  have key : (c / 16 % 4 = 0) ∨ (c / 16 % 4 = 1) ∨ (c / 16 % 4 = 2) ∨ (c / 16 % 4 = 3) := by omega
  rcases key with k0 | k0 | k0 | k0
  · skip
    go_enter Tryz.func102, Tryz.ntmps102
    go_wp2_with (first
      | (go_at_call 105; refine (p_any _ _ h0 h1).mono ?_; rintro e w' ⟨rfl, rfl⟩)
      | (go_at_call 99; refine (read_step _ _ _).mono ?_; rintro e w' ⟨rfl, hb⟩; have HS := Lib.hid (HS.out.below hb); clear hb)
      | (go_at_call 100; refine (write_step _ _ _).mono ?_; rintro e w' ⟨rfl, hb⟩; have HS := Lib.hid (HS.out.below hb); clear hb)
      | (go_at_call 95; refine (wait_any _ _ _).mono ?_; rintro e w' ⟨rfl, hb⟩; have HS := Lib.hid (HS.out.below hb); clear hb)
      | (go_at_call 94; refine (work_any _ _).mono ?_; rintro e w' ⟨rfl, hb⟩; have HS := Lib.hid (HS.out.below hb); clear hb)
      | (go_at_call 101; refine (unless_any _ _).mono ?_; rintro e w' ⟨rfl, hb⟩; have HS := Lib.hid (HS.out.below hb); clear hb)
      | (go_at_call 92; refine (more_st HS.out _ _ (by omega) (by simp [flat_len, Mi.wordS, Mi.placeS]; try (split <;> simp)) (by omega) (by omega) rfl (by simp [Value.oneCell'])).mono ?_; rintro e w' ⟨v1, rfl, hs⟩; have HS := Lib.hid hs; clear hs))
    go_ret
    exact ⟨_, rfl, HS.out.cast (by simp [Mi.returnsS, flat, stp, Mi.readS, Mi.writeS, Mi.waitS, Mi.workS, Mi.unlessS, k0])⟩
  · skip
    go_enter Tryz.func102, Tryz.ntmps102
    go_wp2_with (first
      | (go_at_call 105; refine (p_any _ _ h0 h1).mono ?_; rintro e w' ⟨rfl, rfl⟩)
      | (go_at_call 99; refine (read_step _ _ _).mono ?_; rintro e w' ⟨rfl, hb⟩; have HS := Lib.hid (HS.out.below hb); clear hb)
      | (go_at_call 100; refine (write_step _ _ _).mono ?_; rintro e w' ⟨rfl, hb⟩; have HS := Lib.hid (HS.out.below hb); clear hb)
      | (go_at_call 95; refine (wait_any _ _ _).mono ?_; rintro e w' ⟨rfl, hb⟩; have HS := Lib.hid (HS.out.below hb); clear hb)
      | (go_at_call 94; refine (work_any _ _).mono ?_; rintro e w' ⟨rfl, hb⟩; have HS := Lib.hid (HS.out.below hb); clear hb)
      | (go_at_call 101; refine (unless_any _ _).mono ?_; rintro e w' ⟨rfl, hb⟩; have HS := Lib.hid (HS.out.below hb); clear hb)
      | (go_at_call 92; refine (more_st HS.out _ _ (by omega) (by simp [flat_len, Mi.wordS, Mi.placeS]; try (split <;> simp)) (by omega) (by omega) rfl (by simp [Value.oneCell'])).mono ?_; rintro e w' ⟨v1, rfl, hs⟩; have HS := Lib.hid hs; clear hs))
    go_ret
    exact ⟨_, rfl, HS.out.cast (by simp [Mi.returnsS, flat, stp, Mi.readS, Mi.writeS, Mi.waitS, Mi.workS, Mi.unlessS, k0])⟩
  · skip
    go_enter Tryz.func102, Tryz.ntmps102
    go_wp2_with (first
      | (go_at_call 105; refine (p_any _ _ h0 h1).mono ?_; rintro e w' ⟨rfl, rfl⟩)
      | (go_at_call 99; refine (read_step _ _ _).mono ?_; rintro e w' ⟨rfl, hb⟩; have HS := Lib.hid (HS.out.below hb); clear hb)
      | (go_at_call 100; refine (write_step _ _ _).mono ?_; rintro e w' ⟨rfl, hb⟩; have HS := Lib.hid (HS.out.below hb); clear hb)
      | (go_at_call 95; refine (wait_any _ _ _).mono ?_; rintro e w' ⟨rfl, hb⟩; have HS := Lib.hid (HS.out.below hb); clear hb)
      | (go_at_call 94; refine (work_any _ _).mono ?_; rintro e w' ⟨rfl, hb⟩; have HS := Lib.hid (HS.out.below hb); clear hb)
      | (go_at_call 101; refine (unless_any _ _).mono ?_; rintro e w' ⟨rfl, hb⟩; have HS := Lib.hid (HS.out.below hb); clear hb)
      | (go_at_call 92; refine (more_st HS.out _ _ (by omega) (by simp [flat_len, Mi.wordS, Mi.placeS]; try (split <;> simp)) (by omega) (by omega) rfl (by simp [Value.oneCell'])).mono ?_; rintro e w' ⟨v1, rfl, hs⟩; have HS := Lib.hid hs; clear hs))
    go_ret
    exact ⟨_, rfl, HS.out.cast (by simp [Mi.returnsS, flat, stp, Mi.readS, Mi.writeS, Mi.waitS, Mi.workS, Mi.unlessS, k0])⟩
  · skip
    go_enter Tryz.func102, Tryz.ntmps102
    go_wp2_with (first
      | (go_at_call 105; refine (p_any _ _ h0 h1).mono ?_; rintro e w' ⟨rfl, rfl⟩)
      | (go_at_call 99; refine (read_step _ _ _).mono ?_; rintro e w' ⟨rfl, hb⟩; have HS := Lib.hid (HS.out.below hb); clear hb)
      | (go_at_call 100; refine (write_step _ _ _).mono ?_; rintro e w' ⟨rfl, hb⟩; have HS := Lib.hid (HS.out.below hb); clear hb)
      | (go_at_call 95; refine (wait_any _ _ _).mono ?_; rintro e w' ⟨rfl, hb⟩; have HS := Lib.hid (HS.out.below hb); clear hb)
      | (go_at_call 94; refine (work_any _ _).mono ?_; rintro e w' ⟨rfl, hb⟩; have HS := Lib.hid (HS.out.below hb); clear hb)
      | (go_at_call 101; refine (unless_any _ _).mono ?_; rintro e w' ⟨rfl, hb⟩; have HS := Lib.hid (HS.out.below hb); clear hb)
      | (go_at_call 92; refine (more_st HS.out _ _ (by omega) (by simp [flat_len, Mi.wordS, Mi.placeS]; try (split <;> simp)) (by omega) (by omega) rfl (by simp [Value.oneCell'])).mono ?_; rintro e w' ⟨v1, rfl, hs⟩; have HS := Lib.hid hs; clear hs))
    go_ret
    exact ⟨_, rfl, HS.out.cast (by simp [Mi.returnsS, flat, stp, Mi.readS, Mi.writeS, Mi.waitS, Mi.workS, Mi.unlessS, k0])⟩
set_option maxRecDepth 100000 in
set_option maxHeartbeats 2000000 in
theorem ports_any (c : Int) (base n : Nat) (v : Value) (xs : List Value) (w : World) (ho : w.ownsRow base 65 4 v n xs) (hb : base ≤ w.heap.size) (hx0 : xs.length ≤ 4000) (h0 : 0 ≤ c) (h1 : c ≤ 255) :
    Calls Tryz.prog 103 #[v, .int .u8 c] w (Next_ base w v xs (flat (Mi.portsS c))) := by
  have HS := Lib.hid (St.refl ho hb)
  clear ho hb
  have key : (c / 8 % 8 = 0) ∨ (c / 8 % 8 = 1) ∨ (c / 8 % 8 = 2) ∨ (c / 8 % 8 = 3) ∨ (c / 8 % 8 = 4) ∨ (c / 8 % 8 = 5) ∨ (c / 8 % 8 = 6) ∨ (c / 8 % 8 = 7) := by omega
  rcases key with k0 | k0 | k0 | k0 | k0 | k0 | k0 | k0
  · skip
    go_enter Tryz.func103, Tryz.ntmps103
    go_wp2_with (first
      | (go_at_call 97; refine (y_any _ _ h0 h1).mono ?_; rintro e w' ⟨rfl, rfl⟩)
      | (go_at_call 93; refine (HS.out.call (by omega) (by simp [flat_len, Mi.wordS]) fun n ho hb hx => word_any base n _ _ _ ho hb hx).mono ?_; rintro e w' ⟨v1, rfl, hs⟩; have HS := Lib.hid hs; clear hs)
      | (go_at_call 99; refine (read_step _ _ _).mono ?_; rintro e w' ⟨rfl, hb⟩; have HS := Lib.hid (HS.out.below hb); clear hb)
      | (go_at_call 100; refine (write_step _ _ _).mono ?_; rintro e w' ⟨rfl, hb⟩; have HS := Lib.hid (HS.out.below hb); clear hb)
      | (go_at_call 95; refine (wait_any _ _ _).mono ?_; rintro e w' ⟨rfl, hb⟩; have HS := Lib.hid (HS.out.below hb); clear hb)
      | (go_at_call 94; refine (work_any _ _).mono ?_; rintro e w' ⟨rfl, hb⟩; have HS := Lib.hid (HS.out.below hb); clear hb)
      | (go_at_call 101; refine (unless_any _ _).mono ?_; rintro e w' ⟨rfl, hb⟩; have HS := Lib.hid (HS.out.below hb); clear hb)
      | (go_at_call 92; refine (more_st HS.out _ _ (by omega) (by simp [flat_len, Mi.wordS, Mi.placeS]; try (split <;> simp)) (by omega) (by omega) rfl (by simp [Value.oneCell'])).mono ?_; rintro e w' ⟨v1, rfl, hs⟩; have HS := Lib.hid hs; clear hs))
    go_ret
    exact ⟨_, rfl, HS.out.cast (by simp [Mi.portsS, Mi.wordS, flat, stp, Mi.readS, Mi.writeS, Mi.waitS, Mi.workS, Mi.unlessS, k0])⟩
  · skip
    go_enter Tryz.func103, Tryz.ntmps103
    go_wp2_with (first
      | (go_at_call 97; refine (y_any _ _ h0 h1).mono ?_; rintro e w' ⟨rfl, rfl⟩)
      | (go_at_call 93; refine (HS.out.call (by omega) (by simp [flat_len, Mi.wordS]) fun n ho hb hx => word_any base n _ _ _ ho hb hx).mono ?_; rintro e w' ⟨v1, rfl, hs⟩; have HS := Lib.hid hs; clear hs)
      | (go_at_call 99; refine (read_step _ _ _).mono ?_; rintro e w' ⟨rfl, hb⟩; have HS := Lib.hid (HS.out.below hb); clear hb)
      | (go_at_call 100; refine (write_step _ _ _).mono ?_; rintro e w' ⟨rfl, hb⟩; have HS := Lib.hid (HS.out.below hb); clear hb)
      | (go_at_call 95; refine (wait_any _ _ _).mono ?_; rintro e w' ⟨rfl, hb⟩; have HS := Lib.hid (HS.out.below hb); clear hb)
      | (go_at_call 94; refine (work_any _ _).mono ?_; rintro e w' ⟨rfl, hb⟩; have HS := Lib.hid (HS.out.below hb); clear hb)
      | (go_at_call 101; refine (unless_any _ _).mono ?_; rintro e w' ⟨rfl, hb⟩; have HS := Lib.hid (HS.out.below hb); clear hb)
      | (go_at_call 92; refine (more_st HS.out _ _ (by omega) (by simp [flat_len, Mi.wordS, Mi.placeS]; try (split <;> simp)) (by omega) (by omega) rfl (by simp [Value.oneCell'])).mono ?_; rintro e w' ⟨v1, rfl, hs⟩; have HS := Lib.hid hs; clear hs))
    go_ret
    exact ⟨_, rfl, HS.out.cast (by simp [Mi.portsS, Mi.wordS, flat, stp, Mi.readS, Mi.writeS, Mi.waitS, Mi.workS, Mi.unlessS, k0])⟩
  · skip
    go_enter Tryz.func103, Tryz.ntmps103
    go_wp2_with (first
      | (go_at_call 97; refine (y_any _ _ h0 h1).mono ?_; rintro e w' ⟨rfl, rfl⟩)
      | (go_at_call 93; refine (HS.out.call (by omega) (by simp [flat_len, Mi.wordS]) fun n ho hb hx => word_any base n _ _ _ ho hb hx).mono ?_; rintro e w' ⟨v1, rfl, hs⟩; have HS := Lib.hid hs; clear hs)
      | (go_at_call 99; refine (read_step _ _ _).mono ?_; rintro e w' ⟨rfl, hb⟩; have HS := Lib.hid (HS.out.below hb); clear hb)
      | (go_at_call 100; refine (write_step _ _ _).mono ?_; rintro e w' ⟨rfl, hb⟩; have HS := Lib.hid (HS.out.below hb); clear hb)
      | (go_at_call 95; refine (wait_any _ _ _).mono ?_; rintro e w' ⟨rfl, hb⟩; have HS := Lib.hid (HS.out.below hb); clear hb)
      | (go_at_call 94; refine (work_any _ _).mono ?_; rintro e w' ⟨rfl, hb⟩; have HS := Lib.hid (HS.out.below hb); clear hb)
      | (go_at_call 101; refine (unless_any _ _).mono ?_; rintro e w' ⟨rfl, hb⟩; have HS := Lib.hid (HS.out.below hb); clear hb)
      | (go_at_call 92; refine (more_st HS.out _ _ (by omega) (by simp [flat_len, Mi.wordS, Mi.placeS]; try (split <;> simp)) (by omega) (by omega) rfl (by simp [Value.oneCell'])).mono ?_; rintro e w' ⟨v1, rfl, hs⟩; have HS := Lib.hid hs; clear hs))
    go_ret
    exact ⟨_, rfl, HS.out.cast (by simp [Mi.portsS, Mi.wordS, flat, stp, Mi.readS, Mi.writeS, Mi.waitS, Mi.workS, Mi.unlessS, k0])⟩
  · skip
    go_enter Tryz.func103, Tryz.ntmps103
    go_wp2_with (first
      | (go_at_call 97; refine (y_any _ _ h0 h1).mono ?_; rintro e w' ⟨rfl, rfl⟩)
      | (go_at_call 93; refine (HS.out.call (by omega) (by simp [flat_len, Mi.wordS]) fun n ho hb hx => word_any base n _ _ _ ho hb hx).mono ?_; rintro e w' ⟨v1, rfl, hs⟩; have HS := Lib.hid hs; clear hs)
      | (go_at_call 99; refine (read_step _ _ _).mono ?_; rintro e w' ⟨rfl, hb⟩; have HS := Lib.hid (HS.out.below hb); clear hb)
      | (go_at_call 100; refine (write_step _ _ _).mono ?_; rintro e w' ⟨rfl, hb⟩; have HS := Lib.hid (HS.out.below hb); clear hb)
      | (go_at_call 95; refine (wait_any _ _ _).mono ?_; rintro e w' ⟨rfl, hb⟩; have HS := Lib.hid (HS.out.below hb); clear hb)
      | (go_at_call 94; refine (work_any _ _).mono ?_; rintro e w' ⟨rfl, hb⟩; have HS := Lib.hid (HS.out.below hb); clear hb)
      | (go_at_call 101; refine (unless_any _ _).mono ?_; rintro e w' ⟨rfl, hb⟩; have HS := Lib.hid (HS.out.below hb); clear hb)
      | (go_at_call 92; refine (more_st HS.out _ _ (by omega) (by simp [flat_len, Mi.wordS, Mi.placeS]; try (split <;> simp)) (by omega) (by omega) rfl (by simp [Value.oneCell'])).mono ?_; rintro e w' ⟨v1, rfl, hs⟩; have HS := Lib.hid hs; clear hs))
    go_ret
    exact ⟨_, rfl, HS.out.cast (by simp [Mi.portsS, Mi.wordS, flat, stp, Mi.readS, Mi.writeS, Mi.waitS, Mi.workS, Mi.unlessS, k0])⟩
  · skip
    go_enter Tryz.func103, Tryz.ntmps103
    go_wp2_with (first
      | (go_at_call 97; refine (y_any _ _ h0 h1).mono ?_; rintro e w' ⟨rfl, rfl⟩)
      | (go_at_call 93; refine (HS.out.call (by omega) (by simp [flat_len, Mi.wordS]) fun n ho hb hx => word_any base n _ _ _ ho hb hx).mono ?_; rintro e w' ⟨v1, rfl, hs⟩; have HS := Lib.hid hs; clear hs)
      | (go_at_call 99; refine (read_step _ _ _).mono ?_; rintro e w' ⟨rfl, hb⟩; have HS := Lib.hid (HS.out.below hb); clear hb)
      | (go_at_call 100; refine (write_step _ _ _).mono ?_; rintro e w' ⟨rfl, hb⟩; have HS := Lib.hid (HS.out.below hb); clear hb)
      | (go_at_call 95; refine (wait_any _ _ _).mono ?_; rintro e w' ⟨rfl, hb⟩; have HS := Lib.hid (HS.out.below hb); clear hb)
      | (go_at_call 94; refine (work_any _ _).mono ?_; rintro e w' ⟨rfl, hb⟩; have HS := Lib.hid (HS.out.below hb); clear hb)
      | (go_at_call 101; refine (unless_any _ _).mono ?_; rintro e w' ⟨rfl, hb⟩; have HS := Lib.hid (HS.out.below hb); clear hb)
      | (go_at_call 92; refine (more_st HS.out _ _ (by omega) (by simp [flat_len, Mi.wordS, Mi.placeS]; try (split <;> simp)) (by omega) (by omega) rfl (by simp [Value.oneCell'])).mono ?_; rintro e w' ⟨v1, rfl, hs⟩; have HS := Lib.hid hs; clear hs))
    go_ret
    exact ⟨_, rfl, HS.out.cast (by simp [Mi.portsS, Mi.wordS, flat, stp, Mi.readS, Mi.writeS, Mi.waitS, Mi.workS, Mi.unlessS, k0])⟩
  · skip
    go_enter Tryz.func103, Tryz.ntmps103
    go_wp2_with (first
      | (go_at_call 97; refine (y_any _ _ h0 h1).mono ?_; rintro e w' ⟨rfl, rfl⟩)
      | (go_at_call 93; refine (HS.out.call (by omega) (by simp [flat_len, Mi.wordS]) fun n ho hb hx => word_any base n _ _ _ ho hb hx).mono ?_; rintro e w' ⟨v1, rfl, hs⟩; have HS := Lib.hid hs; clear hs)
      | (go_at_call 99; refine (read_step _ _ _).mono ?_; rintro e w' ⟨rfl, hb⟩; have HS := Lib.hid (HS.out.below hb); clear hb)
      | (go_at_call 100; refine (write_step _ _ _).mono ?_; rintro e w' ⟨rfl, hb⟩; have HS := Lib.hid (HS.out.below hb); clear hb)
      | (go_at_call 95; refine (wait_any _ _ _).mono ?_; rintro e w' ⟨rfl, hb⟩; have HS := Lib.hid (HS.out.below hb); clear hb)
      | (go_at_call 94; refine (work_any _ _).mono ?_; rintro e w' ⟨rfl, hb⟩; have HS := Lib.hid (HS.out.below hb); clear hb)
      | (go_at_call 101; refine (unless_any _ _).mono ?_; rintro e w' ⟨rfl, hb⟩; have HS := Lib.hid (HS.out.below hb); clear hb)
      | (go_at_call 92; refine (more_st HS.out _ _ (by omega) (by simp [flat_len, Mi.wordS, Mi.placeS]; try (split <;> simp)) (by omega) (by omega) rfl (by simp [Value.oneCell'])).mono ?_; rintro e w' ⟨v1, rfl, hs⟩; have HS := Lib.hid hs; clear hs))
    go_ret
    exact ⟨_, rfl, HS.out.cast (by simp [Mi.portsS, Mi.wordS, flat, stp, Mi.readS, Mi.writeS, Mi.waitS, Mi.workS, Mi.unlessS, k0])⟩
  · skip
    go_enter Tryz.func103, Tryz.ntmps103
    go_wp2_with (first
      | (go_at_call 97; refine (y_any _ _ h0 h1).mono ?_; rintro e w' ⟨rfl, rfl⟩)
      | (go_at_call 93; refine (HS.out.call (by omega) (by simp [flat_len, Mi.wordS]) fun n ho hb hx => word_any base n _ _ _ ho hb hx).mono ?_; rintro e w' ⟨v1, rfl, hs⟩; have HS := Lib.hid hs; clear hs)
      | (go_at_call 99; refine (read_step _ _ _).mono ?_; rintro e w' ⟨rfl, hb⟩; have HS := Lib.hid (HS.out.below hb); clear hb)
      | (go_at_call 100; refine (write_step _ _ _).mono ?_; rintro e w' ⟨rfl, hb⟩; have HS := Lib.hid (HS.out.below hb); clear hb)
      | (go_at_call 95; refine (wait_any _ _ _).mono ?_; rintro e w' ⟨rfl, hb⟩; have HS := Lib.hid (HS.out.below hb); clear hb)
      | (go_at_call 94; refine (work_any _ _).mono ?_; rintro e w' ⟨rfl, hb⟩; have HS := Lib.hid (HS.out.below hb); clear hb)
      | (go_at_call 101; refine (unless_any _ _).mono ?_; rintro e w' ⟨rfl, hb⟩; have HS := Lib.hid (HS.out.below hb); clear hb)
      | (go_at_call 92; refine (more_st HS.out _ _ (by omega) (by simp [flat_len, Mi.wordS, Mi.placeS]; try (split <;> simp)) (by omega) (by omega) rfl (by simp [Value.oneCell'])).mono ?_; rintro e w' ⟨v1, rfl, hs⟩; have HS := Lib.hid hs; clear hs))
    go_ret
    exact ⟨_, rfl, HS.out.cast (by simp [Mi.portsS, Mi.wordS, flat, stp, Mi.readS, Mi.writeS, Mi.waitS, Mi.workS, Mi.unlessS, k0])⟩
  · skip
    go_enter Tryz.func103, Tryz.ntmps103
    go_wp2_with (first
      | (go_at_call 97; refine (y_any _ _ h0 h1).mono ?_; rintro e w' ⟨rfl, rfl⟩)
      | (go_at_call 93; refine (HS.out.call (by omega) (by simp [flat_len, Mi.wordS]) fun n ho hb hx => word_any base n _ _ _ ho hb hx).mono ?_; rintro e w' ⟨v1, rfl, hs⟩; have HS := Lib.hid hs; clear hs)
      | (go_at_call 99; refine (read_step _ _ _).mono ?_; rintro e w' ⟨rfl, hb⟩; have HS := Lib.hid (HS.out.below hb); clear hb)
      | (go_at_call 100; refine (write_step _ _ _).mono ?_; rintro e w' ⟨rfl, hb⟩; have HS := Lib.hid (HS.out.below hb); clear hb)
      | (go_at_call 95; refine (wait_any _ _ _).mono ?_; rintro e w' ⟨rfl, hb⟩; have HS := Lib.hid (HS.out.below hb); clear hb)
      | (go_at_call 94; refine (work_any _ _).mono ?_; rintro e w' ⟨rfl, hb⟩; have HS := Lib.hid (HS.out.below hb); clear hb)
      | (go_at_call 101; refine (unless_any _ _).mono ?_; rintro e w' ⟨rfl, hb⟩; have HS := Lib.hid (HS.out.below hb); clear hb)
      | (go_at_call 92; refine (more_st HS.out _ _ (by omega) (by simp [flat_len, Mi.wordS, Mi.placeS]; try (split <;> simp)) (by omega) (by omega) rfl (by simp [Value.oneCell'])).mono ?_; rintro e w' ⟨v1, rfl, hs⟩; have HS := Lib.hid hs; clear hs))
    go_ret
    exact ⟨_, rfl, HS.out.cast (by simp [Mi.portsS, Mi.wordS, flat, stp, Mi.readS, Mi.writeS, Mi.waitS, Mi.workS, Mi.unlessS, k0])⟩
end Go.Proofs.YtbhpmnhlmeglcaaGreat
