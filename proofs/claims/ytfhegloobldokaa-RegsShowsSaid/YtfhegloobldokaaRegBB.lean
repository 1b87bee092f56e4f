/- squealref06: Tick, Digits; regs.Same. -/
import Derived.Test.YtfhegloobldokaaRegZ
import Derived.Test.YtfhegloobldokaaRegI
import Derived.Deep.RegionHeld3
namespace Go.Proofs.Ytfhegloobldokaa
set_option linter.unusedSimpArgs false
set_option linter.unusedVariables false
open Go.RowKit
set_option maxHeartbeats 1000000 in
theorem refTick_any (x : Int) (w : World) (hx : B8 x) : Calls Try.prog 13 #[.int .u8 x] w fun e w' => e = .returned (.int .u8 (x / 128 * 128 + (x + 1) % 128)) ∧ w = w' := by
  obtain ⟨x0, x1⟩ := hx
  by_cases h : 128 ≤ x
  · have e1 : x / 128 * 128 + (x + 1) % 128 = 128 + (x - 127) % 128 := by omega
    rw [e1]
    have E := Lib.hid e1
    clear e1
    go_enter Try.func13, Try.ntmps13
    go_wp2_with fail
    go_ret
    exact ⟨rfl, rfl⟩
  · have e1 : x / 128 * 128 + (x + 1) % 128 = (x + 1) % 128 := by omega
    rw [e1]
    have E := Lib.hid e1
    clear e1
    go_enter Try.func13, Try.ntmps13
    go_wp2_with fail
    go_ret
    exact ⟨rfl, rfl⟩
/-- a digit's sign -/
def hd (x : Int) : UInt8 := UInt8.ofNat (hexd x).toNat
theorem hd_at : ∀ k : Nat, k < 16 → (⟨#[48, 49, 50, 51, 52, 53, 54, 55, 56, 57, 97, 98, 99, 100, 101, 102]⟩ : ByteArray).extract k (k + 1) = ⟨#[hd (k : Nat)]⟩ := by decide +kernel
theorem hd_of (x : Int) (h0 : 0 ≤ x) (h1 : x < 16) : (⟨#[48, 49, 50, 51, 52, 53, 54, 55, 56, 57, 97, 98, 99, 100, 101, 102]⟩ : ByteArray).extract x.toNat (x + 1).toNat = ⟨#[hd x]⟩ := by
  obtain ⟨n, rfl⟩ := Int.eq_ofNat_of_zero_le h0
  have h := hd_at n (by omega)
  have e : ((n : Int) + 1).toNat = n + 1 := by omega
  rw [e, Int.toNat_natCast]
  exact h
theorem hx_succ (n : Nat) (x : Int) (l : List UInt8) : hx (n + 1) x ++ l = hx n (x / 16) ++ (hd (x % 16) :: l) := by simp [hx, hexS, hd]
set_option maxHeartbeats 2000000 in
theorem digits_any (n : Nat) (x : Int) (s : List UInt8) (hs : s = hx n x) (w : World) (h0 : 0 ≤ x) (h1 : x ≤ 1000000) (hn : n ≤ 100) :
    Calls Try.prog 44 #[.int .i64 x, .int .i64 n] w fun e w' => e = .returned (.string ⟨s.toArray⟩) ∧ w = w' := by
  have HS : Hid (hx n x ++ [] = s) := by show _ = _; rw [hs, List.append_nil]
  clear hs
  go_enter Try.func44, Try.ntmps44
  go_wp2_with fail
  go_loop [0, 6, 7] (fun y t i => ∃ (j : Nat) (l : List UInt8) (z : Int), j ≤ n ∧ i = .int .i64 j ∧ y = .int .i64 z ∧ t = .string ⟨l.toArray⟩ ∧ 0 ≤ z ∧ z ≤ 1000000 ∧ l.length ≤ j ∧ Hid (hx (n - j) z ++ l = s)) (fun _ _ i => n - (intOf i).toNat)
  case atStart => exact ⟨0, [], x, by omega, rfl, rfl, rfl, h0, h1, Nat.le_refl _, HS⟩
  case round =>
    obtain ⟨j, l, z, hj, rfl, rfl, rfl, z0, z1, hl, HL⟩ := hrel
    by_cases hlt : j < n
    · have e0 := hd_of (z % 16) (by omega) (by omega)
      have hw : IntKind.i64.wrap (z % 16 + 1) = z % 16 + 1 := by rw [IntKind.wrap_i64]; omega
      have hq : ¬ 9223372036854775807 < 1 + l.length := by omega
      have hq2 : ¬ 9223372036854775806 < l.length := by omega
      go_wp2_with fail
      go_round
      case rel =>
        refine ⟨j + 1, hd (z % 16) :: l, z / 16, by omega, by go_num, rfl, ?_, by omega, by omega, by simp; omega, ?_⟩
        · show Value.string (⟨[hd (z % 16)].toArray⟩ ++ ⟨l.toArray⟩) = _
          rw [app_data]; rfl
        · show _ = _
          have h := HL.out
          have e : n - j = (n - (j + 1)) + 1 := by omega
          rw [e, hx_succ] at h
          exact h
      case measure => simp [intOf]; omega
    · obtain rfl : j = n := by omega
      have hjn : j - j = 0 := by omega
      have HF : Hid (l = s) := by
        have h := HL.out
        rw [hjn] at h
        exact h
      clear hjn
      go_wp2_with fail
      go_ret
      exact ⟨by rw [HF.out]; rfl, rfl⟩
theorem ite_ok (c : Prop) [Decidable c] (a b : Bool) (u : World) : (if c then Result.ok (Value.bool a) u else Result.ok (Value.bool b) u) = .ok (.bool (if c then a else b)) u := by split <;> rfl
theorem ite_ok' (c : Prop) [Decidable c] (a b : Bool) (u : World) : (if c then Result.ok a u else Result.ok b u) = .ok (if c then a else b) u := by split <;> rfl
set_option maxRecDepth 100000 in
set_option maxHeartbeats 4000000 in
theorem eq_any (a b : Rg) : ∃ E : Bool, ∀ u : World, (binOp .eql 24 (.agg a.cells.toArray) (.agg b.cells.toArray)).run Try.prog u = .ok (.bool E) u := by
  refine ⟨?E, fun u => ?_⟩
  rotate_left
  · simp [Rg.cells, go_sem, ite_ok, ite_ok']
    rfl
end Go.Proofs.Ytfhegloobldokaa
