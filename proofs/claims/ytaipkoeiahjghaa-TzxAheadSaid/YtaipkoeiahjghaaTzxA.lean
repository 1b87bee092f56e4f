/- tzx.Bits, Many, Symbol; the document's. -/
import Derived.Test.YtaipkoeiahjghaaWirA
namespace Go.Proofs.Ytaipkoeiahjghaa
set_option linter.unusedSimpArgs false
set_option linter.unusedVariables false
open Go.RowKit
theorem u8_and_one (x : Int) (h0 : 0 ≤ x) (h1 : x ≤ 255) : bits .and .u8 x 1 = x % 2 := by
  rw [u8_and x 1 h0 (by omega) (by omega) (by omega)]
  have : x.toNat &&& (1 : Int).toNat = x.toNat % 2 := Nat.and_two_pow_sub_one_eq_mod x.toNat 1
  rw [this]; omega
namespace Tz
/-- bit k of bytes, the highest one of each first -/
def bit (D : List Int) (k : Nat) : Int := D.getD (k / 8) 0 / 2 ^ (7 - k % 8) % 2
/-- so many bits from one on, as a number -/
def sym (D : List Int) (from_ : Nat) : Nat → Int
  | 0 => 0
  | k + 1 => 2 * sym D from_ k + bit D (from_ + k)
theorem bit_range (D : List Int) (k : Nat) : 0 ≤ bit D k ∧ bit D k ≤ 1 := by unfold bit; omega
theorem sym_range (D : List Int) (f k : Nat) : 0 ≤ sym D f k ∧ sym D f k < 2 ^ k := by
  induction k with
  | zero => simp [sym]
  | succ k ih =>
    have := bit_range D (f + k)
    simp only [sym, Int.pow_succ]
    omega
/-- how many bits tell one of so many -/
def Fewest (n : Int) (b : Nat) : Prop := (∀ j, j < b → 1 < n ∧ (2 : Int) ^ j < n) ∧ ¬ (1 < n ∧ (2 : Int) ^ b < n)
theorem fewest_one {n : Int} {a b : Nat} (ha : Fewest n a) (hb : Fewest n b) : a = b := by
  rcases Nat.lt_trichotomy a b with h | h | h
  · exact absurd (hb.1 a h) ha.2
  · exact h
  · exact absurd (ha.1 b h) hb.2
theorem or_bit (V b : Int) (v0 : 0 ≤ V) (v1 : V ≤ 1000) (b0 : 0 ≤ b) (b1 : b ≤ 1) : bits BinOp.or IntKind.i64 (V * 2) b = 2 * V + b := by
  obtain ⟨a, rfl⟩ := Int.eq_ofNat_of_zero_le v0
  obtain ⟨c, rfl⟩ := Int.eq_ofNat_of_zero_le b0
  have e : ((a : Int) * 2) = ((a * 2 : Nat) : Int) := by simp
  rw [e, i64_or_nat _ _ (by omega) (by omega)]
  have h := Nat.shiftLeft_add_eq_or_of_lt (show c < 2 ^ 1 by omega) a
  rw [Nat.shiftLeft_eq] at h
  have h2 : a * 2 ||| c = a * 2 + c := by simpa using h.symm
  rw [h2]
  simp
  omega
end Tz
/-- how many, as a number of symbols -/
theorem many_any (n : Int) (w : World) : Calls Try.prog 13 #[.int .i64 n] w fun e w' => e = .returned (.int .i64 (if n = 0 then 256 else n)) ∧ w = w' := by
  by_cases h : n = 0
  · subst h
    go_enter Try.func13, Try.ntmps13
    go_wp2_with fail
    go_ret
    exact ⟨rfl, rfl⟩
  · have hz : (n == 0) = false := by simpa using h
    rw [if_neg h]
    go_enter Try.func13, Try.ntmps13
    go_wp2_with fail
    go_ret
    exact ⟨rfl, rfl⟩
theorem refMany_any (n : Int) (w : World) : Calls Try.prog 14 #[.int .i64 n] w fun e w' => e = .returned (.int .i64 (if n = 0 then 256 else n)) ∧ w = w' := by
  by_cases h : n = 0
  · subst h
    go_enter Try.func14, Try.ntmps14
    go_wp2_with fail
    go_ret
    exact ⟨rfl, rfl⟩
  · have hz : (n == 0) = false := by simpa using h
    rw [if_neg h]
    go_enter Try.func14, Try.ntmps14
    go_wp2_with fail
    go_ret
    exact ⟨rfl, rfl⟩
theorem pow_wrap (b : Nat) (hb : b ≤ 21) : wrap64 ((2 : Int) ^ b) = 2 ^ b ∧ (1 : Int) ≤ 2 ^ b ∧ (2 : Int) ^ b ≤ 2097152 := by
  have h : (1 : Int) ≤ 2 ^ b ∧ (2 : Int) ^ b ≤ 2097152 := by
    constructor
    · have : (1 : Nat) ≤ 2 ^ b := Nat.one_le_two_pow
      exact_mod_cast this
    · have h1 : (2 : Nat) ^ b ≤ 2 ^ 21 := Nat.pow_le_pow_right (by decide) hb
      have h3 : (2 : Nat) ^ 21 = 2097152 := by decide
      rw [h3] at h1
      have h4 : ((2 ^ b : Nat) : Int) ≤ ((2097152 : Nat) : Int) := Int.ofNat_le.2 h1
      rw [Int.natCast_pow] at h4
      exact h4
  exact ⟨by unfold wrap64; omega, h⟩
theorem few_lt {n : Int} {b : Nat} (hn : n ≤ 1000000) (h : ∀ j, j < b → 1 < n ∧ (2 : Int) ^ j < n) : b ≤ 20 := by
  rcases Nat.lt_or_ge b 21 with h1 | h1
  · omega
  · have := (h 20 (by omega)).2
    have e : (2 : Int) ^ 20 = 1048576 := by decide
    omega
theorem bits_any (n : Int) (w : World) (hn : n ≤ 1000000) : Calls Try.prog 11 #[.int .i64 n] w fun e w' => ∃ b : Nat, e = .returned (.int .i64 b) ∧ Tz.Fewest n b ∧ w = w' := by
  go_enter Try.func11, Try.ntmps11
  go_wp2_with fail
  go_loopw [3] (fun b wr => ∃ (k : Nat), b = .int .i64 k ∧ Hid (∀ j, j < k → 1 < n ∧ (2 : Int) ^ j < n) ∧ w = wr) (fun b _ => 21 - (intOf b).toNat)
  case atStart => exact ⟨0, rfl, fun j hj => by omega, rfl⟩
  case round =>
    obtain ⟨k, rfl, HK, rfl⟩ := hrel
    have hk := few_lt hn HK.out
    obtain ⟨p1, p2, p3⟩ := pow_wrap k (by omega)
    by_cases h1 : 1 < n
    · by_cases h2 : (2 : Int) ^ k < n
      · have HK2 : Hid (∀ j, j < k + 1 → 1 < n ∧ (2 : Int) ^ j < n) := fun j hj => by
          rcases Nat.lt_or_ge j k with h | h
          · exact HK.out j h
          · obtain rfl : j = k := by omega
            exact ⟨h1, h2⟩
        go_wp2_with fail
        go_roundw
        case rel => exact ⟨k + 1, by go_num, HK2, trivial⟩
        case measure => simp [intOf]; omega
      · have HF : Hid (Tz.Fewest n k) := ⟨HK.out, fun h => h2 h.2⟩
        go_wp2_with fail
        go_ret
        exact ⟨k, rfl, HF.out, rfl⟩
    · have HF : Hid (Tz.Fewest n k) := ⟨HK.out, fun h => h1 h.1⟩
      go_wp2_with fail
      go_ret
      exact ⟨k, rfl, HF.out, rfl⟩
theorem refBits_any (n : Int) (w : World) (hn : n ≤ 1000000) : Calls Try.prog 12 #[.int .i64 n] w fun e w' => ∃ b : Nat, e = .returned (.int .i64 b) ∧ Tz.Fewest n b ∧ w = w' := by
  go_enter Try.func12, Try.ntmps12
  go_wp2_with fail
  go_loopw [3, 4] (fun b p wr => ∃ (k : Nat) (y : Int), b = .int .i64 k ∧ p = .int .i64 y ∧ Hid (y = 2 ^ k) ∧ Hid (∀ j, j < k → 1 < n ∧ (2 : Int) ^ j < n) ∧ w = wr) (fun b _ _ => 21 - (intOf b).toNat)
  case atStart => exact ⟨0, 1, rfl, rfl, rfl, fun j hj => by omega, rfl⟩
  case round =>
    obtain ⟨k, y, rfl, rfl, HY, HK, rfl⟩ := hrel
    have hk := few_lt hn HK.out
    obtain ⟨p1, p2, p3⟩ := pow_wrap k (by omega)
    rw [← HY.out] at p1 p2 p3
    have HY2 : Hid (2 * y = 2 ^ (k + 1)) := by show _ = _; rw [HY.out, Int.pow_succ]; omega
    by_cases h2 : y < n
    · have HK2 : Hid (∀ j, j < k + 1 → 1 < n ∧ (2 : Int) ^ j < n) := fun j hj => by
        rcases Nat.lt_or_ge j k with h | h
        · exact HK.out j h
        · obtain rfl : j = k := by omega
          exact ⟨by omega, by rw [← HY.out]; exact h2⟩
      go_wp2_with fail
      go_roundw
      case rel => exact ⟨k + 1, 2 * y, by go_num, rfl, HY2, HK2, trivial⟩
      case measure => simp [intOf]; omega
    · have HF : Hid (Tz.Fewest n k) := ⟨HK.out, fun h => h2 (by rw [HY.out]; exact h.2)⟩
      go_wp2_with fail
      go_ret
      exact ⟨k, rfl, HF.out, rfl⟩
end Go.Proofs.Ytaipkoeiahjghaa
