/- A ROM that is put together: how many samples a loader goes by. -/
import Derived.Test.YtnkjmmbhjhmgdaaRomI
import Derived.Test.YtnkjmmbhjhmgdaaBits
namespace Go.Proofs.Ytnkjmmbhjhmgdaa
set_option linter.unusedSimpArgs false
set_option linter.unusedVariables false
open Go.RowKit Go.Maps Go.Sort
theorem or_two (a d : Int) (a0 : 0 ≤ a) (a1 : a ≤ 255) (d0 : 0 ≤ d) (d1 : d ≤ 255) : bits BinOp.or IntKind.i64 (a * 256) d = a * 256 + d := by
  obtain ⟨x, rfl⟩ := Int.eq_ofNat_of_zero_le a0
  obtain ⟨y, rfl⟩ := Int.eq_ofNat_of_zero_le d0
  have h : ((x * 256 : Nat) : Int) = (x : Int) * 256 := by simp
  have e : (x * 256) ||| y = x * 256 + y := by
    have := Nat.shiftLeft_add_eq_or_of_lt (show y < 2 ^ 8 by omega) x
    rw [Nat.shiftLeft_eq] at this
    simpa using this.symm
  rw [← h, i64_or_nat _ _ (by omega) (by omega), e]
  simp
def withinF (n : Int) : Int := max 1 (min n 255)
def sampF (z : Int) : Int := withinF (46 * max 0 (min z 65535) / 1000 - 3) * 256 + withinF (23 * max 0 (min z 65535) / 1000 - 2)
set_option maxHeartbeats 1000000 in
theorem rom_within (n : Int) (w : World) : Calls Try.prog 20 #[.int .i64 n] w fun e w' => e = .returned (.int .i64 (withinF n)) ∧ w = w' := by
  go_enter Try.func20, Try.ntmps20
  by_cases h1 : 255 < n
  · have e : withinF n = 255 := by unfold withinF; omega
    rw [e]
    go_wp2_with fail
    go_ret
    exact ⟨rfl, rfl⟩
  · by_cases h2 : n ≤ 1
    · have e : withinF n = 1 := by unfold withinF; omega
      rw [e]
      go_wp2_with fail
      go_ret
      exact ⟨rfl, rfl⟩
    · have e : withinF n = n := by unfold withinF; omega
      rw [e]
      go_wp2_with fail
      go_ret
      exact ⟨rfl, rfl⟩
theorem within_in (n : Int) : 1 ≤ withinF n ∧ withinF n ≤ 255 := by unfold withinF; omega
theorem tdiv_1000 (x : Int) (h : 0 ≤ x) : Int.tdiv x 1000 = x / 1000 := by rw [Int.tdiv_eq_ediv_of_nonneg h]
set_option maxHeartbeats 4000000 in
theorem sample_tail (z0 z : Int) (h0 : 0 ≤ z) (h1 : z ≤ 65535) (w : World) (hz : z = max 0 (min z0 65535)) :
    Calls Try.prog 9 #[.int .i64 z0] w fun e w' => e = .returned (.int .u16 (sampF z0)) ∧ w = w' := by
  obtain ⟨p, hp⟩ : ∃ p, p = 46 * z / 1000 - 3 := ⟨_, rfl⟩
  obtain ⟨q, hq⟩ : ∃ q, q = 23 * z / 1000 - 2 := ⟨_, rfl⟩
  obtain ⟨a, ha⟩ : ∃ a, a = withinF p := ⟨_, rfl⟩
  obtain ⟨b, hb⟩ : ∃ b, b = withinF q := ⟨_, rfl⟩
  obtain ⟨a0, a1⟩ : 1 ≤ a ∧ a ≤ 255 := by rw [ha]; exact within_in _
  obtain ⟨b0, b1⟩ : 1 ≤ b ∧ b ≤ 255 := by rw [hb]; exact within_in _
  have hs : sampF z0 = a * 256 + b := by unfold sampF; rw [← hz, ← hp, ← hq, ← ha, ← hb]
  have d1 : Int.tdiv (46 * z) 1000 = p + 3 := by rw [tdiv_1000 _ (by omega)]; omega
  have d2 : Int.tdiv (23 * z) 1000 = q + 2 := by rw [tdiv_1000 _ (by omega)]; omega
  have eo := or_two a b (by omega) a1 (by omega) b1
  have p0 : -3 ≤ p ∧ p ≤ 65535 := by omega
  have q0 : -3 ≤ q ∧ q ≤ 65535 := by omega
  have ew : IntKind.u16.wrap (a * 256 + b) = a * 256 + b := by rw [IntKind.wrap_u16]; omega
  have s1 : IntKind.i64.wrap (p + 3 - 3) = p := by rw [IntKind.wrap_i64]; omega
  have s2 : IntKind.i64.wrap (q + 2 - 2) = q := by rw [IntKind.wrap_i64]; omega
  have hwA := Lib.hid (rom_within p w)
  have hwB := Lib.hid (rom_within q w)
  have HA := Lib.hid ha
  have HB := Lib.hid hb
  rw [hs]
  have HZ := Lib.hid hz
  clear hs hp hq ha hb hz
  go_enter Try.func9, Try.ntmps9
  go_upto_region 1 with fail
  go_cut [3] (fun v wx => v = .int .i64 z ∧ w = wx)
  case first =>
    by_cases c1 : 65535 < z0
    · have e : z = 65535 := by rw [HZ.out]; omega
      go_wp2_with fail
      go_meet
      exact ⟨by rw [e], rfl⟩
    · by_cases c2 : 0 < z0
      · have e : z = z0 := by rw [HZ.out]; omega
        go_wp2_with fail
        go_meet
        exact ⟨by rw [e], rfl⟩
      · have e : z = 0 := by rw [HZ.out]; omega
        go_wp2_with fail
        go_meet
        exact ⟨by rw [e], rfl⟩
  case rest =>
    obtain ⟨rfl, rfl⟩ := hcut
    go_wp2_with (first
      | (go_at_call_of 20 (Value.int .i64 p); refine hwA.out.mono ?_; rintro e w2 ⟨rfl, rfl⟩; rw [← HA.out])
      | (go_at_call_of 20 (Value.int .i64 q); refine hwB.out.mono ?_; rintro e w2 ⟨rfl, rfl⟩; rw [← HB.out]))
    go_ret
    exact ⟨rfl, rfl⟩
end Go.Proofs.Ytnkjmmbhjhmgdaa
