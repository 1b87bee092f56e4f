/- Package op: Read. -/
import Derived.Test.YtjkakmmhbciilaaOpI
import Derived.BigRegion
namespace Go.Proofs.Ytjkakmmhbciilaa
set_option linter.unusedSimpArgs false
set_option linter.unusedVariables false
open Go.RowKit
def preS (l : List Int) (ix : Int) : In × Bool :=
  if l.length < 2 then (In.z, false) else if l.getD 1 0 = 221 ∨ l.getD 1 0 = 237 ∨ l.getD 1 0 = 253 then (⟨4, ix, 0, 0, 0, 1⟩, true) else if l.getD 1 0 = 203 then (if l.length < 4 then (In.z, false) else (⟨3, ix, l.getD 3 0, l.getD 2 0, 0, 4⟩, true)) else
  tailS l ⟨0, ix, l.getD 1 0, 0, 0, 0⟩ 2 (Mi.argsS (l.getD 1 0)).toNat
def readS (l : List Int) : In × Bool :=
  if l.length = 0 then (In.z, false) else if l.getD 0 0 = 203 ∨ l.getD 0 0 = 237 then secondS l else if l.getD 0 0 = 221 then preS l 1 else if l.getD 0 0 = 253 then preS l 2 else
  tailS l ⟨0, 0, l.getD 0 0, 0, 0, 0⟩ 1 (Mi.argsS (l.getD 0 0)).toNat
theorem argsS_ran (c : Int) (h0 : 0 ≤ c) (h1 : c ≤ 255) : 0 ≤ Mi.argsS c ∧ Mi.argsS c ≤ 2 := by
  obtain ⟨n, rfl⟩ := Int.eq_ofNat_of_zero_le h0
  exact Mi.args_ran n (by omega)
set_option maxHeartbeats 1000000 in
theorem read_0 (A : Option Addr) (cap : Nat) (w : World) : Calls Try.prog 9 #[.slice A 0 cap] w (Reads (In.z, false) w) := by
  go_enter Try.func9, Try.ntmps9
  go_wp2_with fail
  refine bodyPost_ret (v := .tuple #[.agg #[.int .i64 0, .int .i64 0, .int .u8 0, .int .u8 0, .int .u16 0, .int .i64 0], .bool false]) (by simp [results, Try.results9, go_sem]) rfl ⟨rfl, ?_⟩
  repeat (with_reducible refine Below.setCell ?_ (by simp) _)
  exact (Below.refl _ _).alloc (Nat.le_refl _) _
set_option maxHeartbeats 1000000 in
/-- a code behind 203, or 237 -/
theorem read_second (ad : Addr) (n cap : Nat) (l : List Int) (w : World) (h : Bys w ad n cap l) (h1 : 1 ≤ n) (h2 : l.getD 0 0 = 203 ∨ l.getD 0 0 = 237) :
    Calls Try.prog 9 #[.slice (some ad) n cap] w (Reads (secondS l) w) := by
  have hlt := h.lt h1
  obtain ⟨c0, b0, _⟩ := h.at0 h1
  have hS := fun (w' : World) (hB : Below w.heap.size w w') => second_any ad n cap l w' (h.below hB) h1
  obtain ⟨R, hR⟩ : ∃ R, R = secondS l := ⟨_, rfl⟩
  rw [← hR]
  simp only [← hR] at hS
  obtain ⟨⟨s, i, c, d, m, ln⟩, ok⟩ := R
  have HS : Hid (∀ w', Below w.heap.size w w' → Calls Try.prog 18 #[.slice (some ad) n cap] w' (ReadsL s i c d m ln ok w')) := hS
  obtain ⟨y, hy⟩ : ∃ y, y = l.getD 0 0 := ⟨_, rfl⟩
  rw [← hy] at c0 h2
  clear hS hR h b0 hy
  rcases h2 with rfl | rfl
  all_goals
    go_enter Try.func9, Try.ntmps9
    go_wp2_with (first
      | (go_at_call 18; refine (HS.out _ ((Below.refl _ _).alloc (Nat.le_refl _) _)).mono ?_; rintro e w' ⟨rfl, hb⟩; obtain ⟨hc, hf⟩ := bcell hb))
    refine bodyPost_ret (v := .tuple #[.agg #[.int .i64 s, .int .i64 i, .int .u8 c, .int .u8 d, .int .u16 m, .int .i64 ln], .bool ok]) (by simp [results, Try.results9, go_sem, hc]) rfl ⟨rfl, ?_⟩
    repeat (with_reducible refine Below.setCell ?_ (by simp) _)
    exact ((Below.refl _ w).alloc (Nat.le_refl _) _).trans (hb.mono (by simp))
set_option maxHeartbeats 1000000 in
/-- a plain code -/
theorem read_plain (ad : Addr) (n cap : Nat) (l : List Int) (w : World) (h : Bys w ad n cap l) (h1 : 1 ≤ n) (h2 : ¬ (l.getD 0 0 = 203 ∨ l.getD 0 0 = 237)) (h3 : l.getD 0 0 ≠ 221) (h4 : l.getD 0 0 ≠ 253) :
    Calls Try.prog 9 #[.slice (some ad) n cap] w (Reads (tailS l ⟨0, 0, l.getD 0 0, 0, 0, 0⟩ 1 (Mi.argsS (l.getD 0 0)).toNat) w) := by
  have hlt := h.lt h1
  obtain ⟨c0, b0, _⟩ := h.at0 h1
  have ran := argsS_ran _ b0.1 b0.2
  have hA := fun w' => args_any (l.getD 0 0) w' b0.1 b0.2
  have hT := fun (w' : World) (hB : Below w.heap.size w w') => tailA_any ad n cap l (l.getD 0 0) (Mi.argsS (l.getD 0 0)) w' (h.below hB) h1 ran.1 ran.2
  obtain ⟨R, hR⟩ : ∃ R, R = tailS l ⟨0, 0, l.getD 0 0, 0, 0, 0⟩ 1 (Mi.argsS (l.getD 0 0)).toNat := ⟨_, rfl⟩
  rw [← hR]
  simp only [← hR] at hT
  obtain ⟨⟨s, i, c, d, m, ln⟩, ok⟩ := R
  obtain ⟨a, ha⟩ : ∃ a, a = Mi.argsS (l.getD 0 0) := ⟨_, rfl⟩
  simp only [← ha] at hT hA
  obtain ⟨y, hy⟩ : ∃ y, y = l.getD 0 0 := ⟨_, rfl⟩
  rw [← hy] at c0 h2 h3 h4
  simp only [← hy] at hT hA
  have HA := Lib.hid hA
  have HT : Hid (∀ w', Below w.heap.size w w' → Calls Try.prog 19 #[.slice (some ad) n cap, .agg #[.int .i64 0, .int .i64 0, .int .u8 y, .int .u8 0, .int .u16 0, .int .i64 0], .int .i64 1, .int .i64 a] w' (ReadsL s i c d m ln ok w')) := hT
  have k1 : (y == 203) = false := by simp; intro e; exact h2 (.inl e)
  have k2 : (y == 237) = false := by simp; intro e; exact h2 (.inr e)
  have k3 : (y == 221) = false := by simp [h3]
  have k4 : (y == 253) = false := by simp [h4]
  clear hT hR h b0 hy ha hA ran h2 h3 h4
  go_enter Try.func9, Try.ntmps9
  go_wp2_with fail
  go_region_with (first
    | (go_at_call 14; refine (HA.out _).mono ?_; rintro e w' ⟨rfl, rfl⟩)
    | (go_at_call 19; refine (HT.out _ (((Below.refl _ _).alloc (Nat.le_refl _) _).drew)).mono ?_; rintro e w' ⟨rfl, hb⟩; obtain ⟨hc, hf⟩ := bcell hb))
  all_goals
    go_wp2_with fail
    refine bodyPost_ret (v := .tuple #[.agg #[.int .i64 s, .int .i64 i, .int .u8 c, .int .u8 d, .int .u16 m, .int .i64 ln], .bool ok]) (by simp [results, Try.results9, go_sem, hc]) rfl ⟨rfl, ?_⟩
    repeat (with_reducible refine Below.setCell ?_ (by simp) _)
    exact (((Below.refl _ w).alloc (Nat.le_refl _) _).drew).trans (hb.mono (by simp))
end Go.Proofs.Ytjkakmmhbciilaa
