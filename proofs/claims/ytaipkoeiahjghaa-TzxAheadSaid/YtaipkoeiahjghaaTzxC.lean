/- The document's Symbol. -/
import Derived.Test.YtaipkoeiahjghaaTzxB
namespace Go.Proofs.Ytaipkoeiahjghaa
set_option linter.unusedSimpArgs false
set_option linter.unusedVariables false
open Go.RowKit
theorem half_more (x : Int) (t : Nat) (h : 0 ≤ x) : x / 2 ^ t / 2 = x / 2 ^ (t + 1) := by
  rw [Int.pow_succ, Int.ediv_ediv_of_nonneg (by exact Int.pow_nonneg (by omega))]
set_option maxHeartbeats 4000000 in
set_option maxRecDepth 100000 in
theorem refSymbol_any (A : Option Addr) (n c : Nat) (D : List Int) (b i : Int) (w : World) (hl : Ints w A .u8 D) (hn : D.length = n) (hn1 : n ≤ 1000) (hb : Byts D) :
    Calls Try.prog 10 #[.slice A n c, .int .i64 b, .int .i64 i] w (SymP D n b i w) := by
  have HL := Lib.hid hl; have HN := Lib.hid hn; have HB := Lib.hid hb
  clear hl hn hb
  by_cases b0 : b < 0
  · have HF := Lib.hid (show Tz.may n b i = false by unfold Tz.may; simp; omega)
    go_enter Try.func10, Try.ntmps10
    go_wp2_with fail
    go_ret2
    exact symP_no HF.out rfl rfl
  by_cases b8 : 8 < b
  · have HF := Lib.hid (show Tz.may n b i = false by unfold Tz.may; simp; omega)
    go_enter Try.func10, Try.ntmps10
    go_wp2_with fail
    go_ret2
    exact symP_no HF.out rfl rfl
  by_cases i0 : i < 0
  · have HF := Lib.hid (show Tz.may n b i = false by unfold Tz.may; simp; omega)
    go_enter Try.func10, Try.ntmps10
    go_wp2_with fail
    go_ret2
    exact symP_no HF.out rfl rfl
  by_cases bz : b = 0
  · subst bz
    have HF := Lib.hid (show Tz.may n 0 i = true by unfold Tz.may; simp; omega)
    go_enter Try.func10, Try.ntmps10
    go_wp2_with fail
    go_loopw [8, 9] (fun v k wr => v = .int .i64 0 ∧ k = .int .i64 0 ∧ w = wr) (fun _ _ _ => 0)
    case atStart => exact ⟨rfl, by simp, rfl⟩
    case round =>
      obtain ⟨rfl, rfl, rfl⟩ := hrel
      go_wp2_with fail
      go_ret2
      refine ⟨?_, rfl⟩
      rw [HF.out]
      rfl
  have b1 : 1 ≤ b := by omega
  have hge : i ≤ b * i := by
    have h2 : 0 ≤ (b - 1) * i := Int.mul_nonneg (by omega) (by omega)
    have h3 : (b - 1) * i = b * i - i := by rw [Int.sub_mul, Int.one_mul]
    omega
  obtain ⟨m, hm⟩ := Int.eq_ofNat_of_zero_le (show 0 ≤ b * i from Int.mul_nonneg (by omega) (by omega))
  by_cases hi : 8 * (n : Int) ≤ i
  · have HF := Lib.hid (show Tz.may n b i = false by unfold Tz.may; simp; omega)
    clear hge hm
    go_enter Try.func10, Try.ntmps10
    go_wp2_with fail
    go_ret2
    exact symP_no HF.out rfl rfl
  have hmx : m ≤ 64000 := by
    have : b * i ≤ 8 * i := Int.mul_le_mul_of_nonneg_right (by omega) (by omega)
    omega
  by_cases hs : 8 * (n : Int) < m + b
  · have HF := Lib.hid (show Tz.may n b i = false by unfold Tz.may; simp; omega)
    clear hge
    go_enter Try.func10, Try.ntmps10
    go_wp2_with fail
    go_ret2
    exact symP_no HF.out rfl rfl
  have HF := Lib.hid (show Tz.may n b i = true by unfold Tz.may; simp; omega)
  obtain ⟨B, rfl⟩ := Int.eq_ofNat_of_zero_le (show 0 ≤ b by omega)
  have HM := Lib.hid hm
  clear hge
  go_enter Try.func10, Try.ntmps10
  go_wp2_with fail
  go_loopw [8, 9, 10, 11, 12] (fun v k _ _ _ wr => ∃ (j : Nat), j ≤ B ∧ v = .int .i64 (Tz.sym D m j) ∧ k = .int .i64 ((j : Nat) : Int) ∧ w = wr) (fun _ k _ _ _ _ => B - (intOf k).toNat)
  case atStart => exact ⟨0, by omega, rfl, by simp, rfl⟩
  case round =>
    obtain ⟨j, hj, rfl, rfl, rfl⟩ := hrel
    by_cases hlt : j < B
    · obtain ⟨x, hx⟩ : ∃ x, D[(m + j) / 8]? = some x := ⟨_, List.getElem?_eq_getElem (by rw [HN.out]; omega)⟩
      obtain ⟨ad, rfl, hc⟩ := HL.out ((m + j) / 8) (.int .u8 x) (by simp [hx])
      obtain ⟨x0, x1⟩ := HB.out x (List.mem_of_getElem? hx)
      obtain ⟨s, hs'⟩ : ∃ s, s = 7 - (m + j) % 8 := ⟨_, rfl⟩
      have hbit : Tz.bit D (m + j) = x / 2 ^ s % 2 := by unfold Tz.bit; rw [hs']; simp [List.getD, hx]
      have hsr := Tz.sym_range D m j
      have hp8 : (2 : Int) ^ j ≤ 2 ^ 8 := by
        have : (2 : Nat) ^ j ≤ 2 ^ 8 := Nat.pow_le_pow_right (by decide) (by omega)
        exact_mod_cast this
      obtain ⟨V, hV⟩ : ∃ V, V = Tz.sym D m j := ⟨_, rfl⟩
      have HV2 : Hid (2 * V + x / 2 ^ s % 2 = Tz.sym D m (j + 1)) := by show _ = _; rw [hV, ← hbit]; rfl
      rw [← hV] at hsr ⊢
      obtain ⟨v0, v1⟩ := hsr
      have v2 : V ≤ 1000 := by omega
      have hsc : (7 : Int) - ((m : Int) + j) % 8 = (s : Int) := by omega
      have hk63 : m + j < 8000 := by omega
      have HX := Lib.hid (fun t : Nat => Int.ediv_nonneg x0 (show (0 : Int) ≤ 2 ^ t from Int.pow_nonneg (by omega)))
      have HX2 := Lib.hid (fun t : Nat => Int.ediv_le_self ((2 : Int) ^ t) x0)
      have HS := Lib.hid hs'
      have hs8 : s ≤ 7 := by omega
      clear hx hbit hV v1 hp8 hs'
      go_wp2_with fail
      go_loopw [11, 12] (fun cc tt wr => ∃ (t : Nat), t ≤ s ∧ cc = .int .i64 (x / 2 ^ t) ∧ tt = .int .i64 ((t : Nat) : Int) ∧ w = wr) (fun _ tt _ => s - (intOf tt).toNat)
      case atStart => exact ⟨0, by omega, by simp, by simp, rfl⟩
      case round =>
        obtain ⟨t, ht, rfl, rfl, rfl⟩ := hrel
        have q0 := HX.out t
        have q1 := HX2.out t
        have HH := Lib.hid (half_more x t x0)
        obtain ⟨y, hy⟩ : ∃ y, y = x / 2 ^ t := ⟨_, rfl⟩
        rw [← hy] at q0 q1 HH ⊢
        by_cases hlt2 : t < s
        · clear hy
          go_wp2_with fail
          go_roundw
          case rel => exact ⟨t + 1, by omega, by rw [← HH.out], by go_num, trivial⟩
          case measure => simp [intOf]; omega
        · obtain rfl : t = s := by omega
          have HV3 : Hid (2 * V + y % 2 = Tz.sym D m (j + 1)) := by show _ = _; rw [hy]; exact HV2.out
          clear hy
          go_wp2_with fail
          go_roundw
          case rel => exact ⟨j + 1, by omega, by rw [← HV3.out], by go_num, trivial⟩
          case measure => simp [intOf]; omega
    · obtain rfl : j = B := by omega
      go_wp2_with fail
      go_ret2
      exact symP_ok (B := j) HF.out HM.out rfl rfl rfl
end Go.Proofs.Ytaipkoeiahjghaa
