/- zlib: headed, number. -/
import Derived.Test.YtbemlmpajnklpaaInfH
import Derived.Test.YtbemlmpajnklpaaAdlB
namespace Go.Proofs.Ytbemlmpajnklpaa
set_option linter.unusedSimpArgs false
set_option linter.unusedVariables false
open Go.RowKit
namespace Zl
/-- may these two stand ahead? -/
def Fits (a d : Int) : Prop := a % 16 = 8 ∧ a < 128 ∧ (256 * a + d) % 31 = 0 ∧ d / 32 % 2 = 0
instance (a d : Int) : Decidable (Fits a d) := by unfold Fits; infer_instance
theorem and15 (x : Int) (h0 : 0 ≤ x) (h1 : x ≤ 255) : bits BinOp.and IntKind.u8 x 15 = x % 16 := by
  obtain ⟨n, rfl⟩ := Int.eq_ofNat_of_zero_le h0
  have key : ∀ k : Fin 256, bits BinOp.and IntKind.u8 (k.1 : Int) 15 = (k.1 : Int) % 16 := by decide +kernel
  exact key ⟨n, by omega⟩
theorem and32 (x : Int) (h0 : 0 ≤ x) (h1 : x ≤ 255) : bits BinOp.and IntKind.u8 x 32 = x / 32 % 2 * 32 := by
  obtain ⟨n, rfl⟩ := Int.eq_ofNat_of_zero_le h0
  have key : ∀ k : Fin 256, bits BinOp.and IntKind.u8 (k.1 : Int) 32 = (k.1 : Int) / 32 % 2 * 32 := by decide +kernel
  exact key ⟨n, by omega⟩
theorem or_two (a d : Int) (a0 : 0 ≤ a) (a1 : a ≤ 255) (d0 : 0 ≤ d) (d1 : d ≤ 255) : bits BinOp.or IntKind.i64 (a * 256) d = a * 256 + d := by
  obtain ⟨x, rfl⟩ := Int.eq_ofNat_of_zero_le a0
  obtain ⟨y, rfl⟩ := Int.eq_ofNat_of_zero_le d0
  have h : ((x * 256 : Nat) : Int) = (x : Int) * 256 := by simp
  have e : (x * 256) ||| y = x * 256 + y := by
    have := Nat.shiftLeft_add_eq_or_of_lt (show y < 2 ^ 8 by omega) x
    rw [Nat.shiftLeft_eq] at this
    simpa using this.symm
  rw [← h, i64_or_nat _ _ (by omega) (by omega), e]
  simp
theorem or_four (a d : Int) (a0 : 0 ≤ a) (a1 : a ≤ 16777215) (d0 : 0 ≤ d) (d1 : d ≤ 255) : bits BinOp.or IntKind.u32 (a * 256) d = a * 256 + d := by
  obtain ⟨x, rfl⟩ := Int.eq_ofNat_of_zero_le a0
  obtain ⟨y, rfl⟩ := Int.eq_ofNat_of_zero_le d0
  have h : ((x * 256 : Nat) : Int) = (x : Int) * 256 := by simp
  have e : (x * 256) ||| y = x * 256 + y := by
    have := Nat.shiftLeft_add_eq_or_of_lt (show y < 2 ^ 8 by omega) x
    rw [Nat.shiftLeft_eq] at this
    simpa using this.symm
  rw [← h, u32_or_nat _ _ (by omega) (by omega), e]
  simp
end Zl
theorem headed_short (A : Option Addr) (n c : Nat) (w : World) (h : n < 2) : Calls Try.prog 24 #[.slice A n c] w fun e w' => e = .returned (.int .i64 2) ∧ w = w' := by
  have h2 : (n : Int) < 2 := by omega
  go_enter Try.func24, Try.ntmps24
  go_wp2
  go_ret
  exact ⟨rfl, rfl⟩
set_option maxRecDepth 100000 in
set_option maxHeartbeats 4000000 in
theorem headed_any (ad : Addr) (n c : Nat) (a d : Int) (w : World) (h : 2 ≤ n) (hc : n ≤ c) (hn : n ≤ 2000000) (h0 : w.cell? (ad.add 0) = some (.int .u8 a)) (h1 : w.cell? (ad.add 1) = some (.int .u8 d)) (a0 : 0 ≤ a) (a1 : a ≤ 255) (d0 : 0 ≤ d) (d1 : d ≤ 255) :
    Calls Try.prog 24 #[.slice (some ad) n c] w fun e w' => e = .returned (.int .i64 (if Zl.Fits a d then 0 else 4)) ∧ Drew w w' := by
  have h2 : ¬ ((n : Int) < 2) := by omega
  have i0 : (0 : Int) < n := by omega
  have i1 : (1 : Int) < n := by omega
  have j0 : 0 < n := by omega
  have j1 : 1 < n := by omega
  have hx := Zl.and15 a a0 a1
  have hy := Zl.and32 d d0 d1
  have hz := Zl.or_two a d a0 a1 d0 d1
  have e0 : (ad.add 0) = ad := rfl
  rw [e0] at h0
  have e1 : (ad.add 1) = ⟨ad.block, ad.off + 1, none⟩ := rfl
  rw [e1] at h1
  clear e0 e1
  by_cases p1 : a % 16 = 8
  · have t1 : ((a % 16 : Int) != 8) = false := by simpa using p1
    have P1 := Lib.hid p1
    clear p1
    by_cases p2 : a < 128
    · have t2 : ¬ (7 < a / 16) := by omega
      have P2 := Lib.hid p2
      clear p2
      by_cases p3 : (256 * a + d) % 31 = 0
      · have t3 : (((a * 256 + d) % 31 : Int) != 0) = false := by
          rw [Int.mul_comm]
          simpa using p3
        have P3 := Lib.hid p3
        clear p3
        by_cases p4 : d / 32 % 2 = 0
        · have t4 : ((d / 32 % 2 * 32 : Int) != 0) = false := by rw [p4]; rfl
          have HE : Hid ((if Zl.Fits a d then 0 else 4 : Int) = 0) := if_pos ⟨P1.out, P2.out, P3.out, p4⟩
          rw [HE.out]
          clear p4
          go_enter Try.func24, Try.ntmps24
          go_wp2
          go_quiet (fail)
          go_wp2
          go_ret
          exact ⟨rfl, _, rfl⟩
        · have t4 : ((d / 32 % 2 * 32 : Int) != 0) = true := by
            have : d / 32 % 2 = 1 := by omega
            rw [this]; rfl
          have HE : Hid ((if Zl.Fits a d then 0 else 4 : Int) = 4) := if_neg (fun h => p4 h.2.2.2)
          rw [HE.out]
          clear p4
          go_enter Try.func24, Try.ntmps24
          go_wp2
          go_quiet (fail)
          go_wp2
          go_ret
          exact ⟨rfl, _, rfl⟩
      · have t3 : (((a * 256 + d) % 31 : Int) != 0) = true := by
          rw [Int.mul_comm]
          simpa using p3
        have HE : Hid ((if Zl.Fits a d then 0 else 4 : Int) = 4) := if_neg (fun h => p3 h.2.2.1)
        rw [HE.out]
        clear p3
        go_enter Try.func24, Try.ntmps24
        go_wp2
        go_quiet (fail)
        go_wp2
        go_ret
        exact ⟨rfl, _, rfl⟩
    · have t2 : 7 < a / 16 := by omega
      have HE : Hid ((if Zl.Fits a d then 0 else 4 : Int) = 4) := if_neg (fun h => p2 h.2.1)
      rw [HE.out]
      clear p2
      go_enter Try.func24, Try.ntmps24
      go_wp2
      go_quiet (fail)
      go_wp2
      go_ret
      exact ⟨rfl, _, rfl⟩
  · have t1 : ((a % 16 : Int) != 8) = true := by simpa using p1
    have HE : Hid ((if Zl.Fits a d then 0 else 4 : Int) = 4) := if_neg (fun h => p1 h.1)
    rw [HE.out]
    clear p1
    go_enter Try.func24, Try.ntmps24
    go_wp2
    go_quiet (fail)
    go_wp2
    go_ret
    exact ⟨rfl, _, rfl⟩
namespace Zl
/-- four bytes as a number, the highest one first -/
def be4 (l : List Int) (q : Nat) : Int := ((l.getD q 0 * 256 + l.getD (q + 1) 0) * 256 + l.getD (q + 2) 0) * 256 + l.getD (q + 3) 0
/-- the first of them as a number -/
def be (l : List Int) : Nat → Int
  | 0 => 0
  | k + 1 => be l k * 256 + l.getD k 0
theorem be_range (l : List Int) (h : ∀ x ∈ l, 0 ≤ x ∧ x ≤ 255) (k : Nat) : 0 ≤ be l k ∧ be l k < 256 ^ k := by
  induction k with
  | zero => simp [be]
  | succ k ih =>
    have := Hf.getD_range l h k
    simp only [be, Int.pow_succ]
    omega
end Zl
set_option maxRecDepth 100000 in
set_option maxHeartbeats 4000000 in
theorem number_any (ad : Addr) (n c : Nat) (l : List Int) (w : World) (h : Ints w (some ad) .u8 l) (hr : ∀ x ∈ l, 0 ≤ x ∧ x ≤ 255) (hn : l.length = n) (h4 : 4 ≤ n) (hc : n ≤ c) (hm : n ≤ 2000000) :
    Calls Try.prog 26 #[.slice (some ad) n c] w fun e w' => e = .returned (.int .u32 (Zl.be l 4)) ∧ w = w' := by
  have HN := Lib.hid hn
  have HI := Lib.hid h
  have HR := Lib.hid hr
  clear h hr hn
  go_enter Try.func26, Try.ntmps26
  go_wp2
  go_loop [3, 5] (fun v i => ∃ k : Nat, k ≤ 4 ∧ i = .int .i64 k ∧ v = .int .u32 (Zl.be l k)) (fun _ i => 4 - (intOf i).toNat)
  case atStart => exact ⟨0, by omega, rfl, rfl⟩
  case round =>
    obtain ⟨k, hk, rfl, rfl⟩ := hrel
    by_cases hlt : k < 4
    · have hkl : k < l.length := by rw [HN.out]; omega
      obtain ⟨x, hx⟩ : ∃ x, x = l[k] := ⟨_, rfl⟩
      have hcell : w.cell? (ad.add k) = some (.int .u8 x) := by
        obtain ⟨a', e, hc⟩ := HI.out k (.int .u8 x) (by rw [List.getElem?_map, List.getElem?_eq_getElem hkl, hx]; rfl)
        injection e with e
        rw [e]; exact hc
      obtain ⟨x0, x1⟩ := HR.out x (by rw [hx]; exact List.getElem_mem hkl)
      have hb := Zl.be_range l HR.out k
      have hb2 : 0 ≤ Zl.be l k ∧ Zl.be l k ≤ 16777215 := by
        refine ⟨hb.1, ?_⟩
        have h3 : (256 : Nat) ^ k ≤ 256 ^ 3 := Nat.pow_le_pow_right (by omega) (by omega)
        have h5 : ((256 ^ k : Nat) : Int) ≤ ((256 ^ 3 : Nat) : Int) := Int.ofNat_le.2 h3
        rw [Int.natCast_pow] at h5
        have h6 : ((256 ^ 3 : Nat) : Int) = 16777216 := by decide
        have h7 := hb.2
        have h8 : ((256 : Nat) : Int) = 256 := rfl
        rw [h8] at h5
        omega
      have hs : Zl.be l (k + 1) = Zl.be l k * 256 + x := by
        rw [Zl.be, hx]
        simp [List.getD, hkl]
      obtain ⟨v, hv⟩ : ∃ v, v = Zl.be l k := ⟨_, rfl⟩
      rw [← hv] at hb2 hs ⊢
      obtain ⟨v0, v1⟩ := hb2
      have HS := Lib.hid hs
      have ho := Zl.or_four v x v0 v1 x0 x1
      have kn : (k : Int) < n := by omega
      clear hs hv hb hx hkl
      go_wp2
      go_round
      case rel => exact ⟨k + 1, by omega, by go_num, by rw [HS.out]⟩
      case measure => simp [intOf]; omega
    · obtain rfl : k = 4 := by omega
      go_wp2
      go_ret
      exact ⟨rfl, rfl⟩
end Go.Proofs.Ytbemlmpajnklpaa
