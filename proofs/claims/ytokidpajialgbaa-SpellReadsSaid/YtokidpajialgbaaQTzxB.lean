/- tzx.Symbol. Written by gen_tzxb.py. -/
import Derived.Test.YtokidpajialgbaaQG20
namespace Go.Proofs.Ytokidpajialgbaa
set_option linter.unusedSimpArgs false
set_option linter.unusedVariables false
open Go.RowKit
namespace Tz
/-- is there such a symbol? -/
def may (n : Nat) (b i : Int) : Bool := decide (0 ≤ b ∧ b ≤ 8 ∧ 0 ≤ i ∧ b * i + b ≤ 8 * n)
end Tz
/-- a symbol, or that there is none -/
def SymP (D : List Int) (n : Nat) (b i : Int) (w : World) (e : Ending) (w' : World) : Prop := e = .returned (.tuple #[.int .i64 (if Tz.may n b i then Tz.sym D (b * i).toNat b.toNat else 0), .bool (Tz.may n b i)]) ∧ w = w'
theorem symP_no {D : List Int} {n : Nat} {b i : Int} {w w' : World} {e : Ending} (h : Tz.may n b i = false) (he : e = .returned (.tuple #[.int .i64 0, .bool false])) (hw : w = w') : SymP D n b i w e w' := by
  refine ⟨?_, hw⟩
  rw [h]
  exact he
theorem symP_ok {D : List Int} {n m B : Nat} {b i : Int} {w w' : World} {e : Ending} (h : Tz.may n b i = true) (hm : b * i = m) (hB : b = B) (he : e = .returned (.tuple #[.int .i64 (Tz.sym D m B), .bool true])) (hw : w = w') : SymP D n b i w e w' := by
  refine ⟨?_, hw⟩
  rw [h, hm, hB]
  exact he
set_option maxHeartbeats 4000000 in
set_option maxRecDepth 100000 in
theorem sym_ok1 (A : Option Addr) (n c : Nat) (D : List Int) (m : Nat) (i : Int) (w : World) (hl : Ints w A .u8 D) (hn : D.length = n) (hn1 : n ≤ 1048576) (hb : Byts D) (i0 : 0 ≤ i) (hm : 1 * i = m) (hs : (m : Int) + 1 ≤ 8 * n) (hF : Tz.may n 1 i = true) :
    Calls Try.prog 71 #[.slice A n c, .int .i64 1, .int .i64 i] w (SymP D n 1 i w) := by
  have HL := Lib.hid hl; have HN := Lib.hid hn; have HB := Lib.hid hb; have HF := Lib.hid hF; have HM := Lib.hid hm
  clear hl hn hb hF
  have n1 : 1 ≤ n := by omega
  have qi : i ≤ (8 * (n : Int) - 1) / 1 := by omega
  go_enter Try.func71, Try.ntmps71
  go_wp2_with fail
  go_loopw [8, 9] (fun v k wr => ∃ (j : Nat), j ≤ 1 ∧ v = .int .i64 (Tz.sym D m j) ∧ k = .int .i64 ((m + j : Nat) : Int) ∧ w = wr) (fun _ k _ => m + 1 - (intOf k).toNat)
  case atStart => exact ⟨0, by omega, rfl, by simp, rfl⟩
  case round =>
    obtain ⟨j, hj, rfl, rfl, rfl⟩ := hrel
    by_cases hlt : j < 1
    · obtain ⟨x, hx⟩ : ∃ x, D[(m + j) / 8]? = some x := ⟨_, List.getElem?_eq_getElem (by rw [HN.out]; omega)⟩
      obtain ⟨ad, rfl, hc⟩ := HL.out ((m + j) / 8) (.int .u8 x) (by simp [hx])
      obtain ⟨x0, x1⟩ := HB.out x (List.mem_of_getElem? hx)
      obtain ⟨s, hs'⟩ : ∃ s, s = 7 - (m + j) % 8 := ⟨_, rfl⟩
      have hbit : Tz.bit D (m + j) = x / 2 ^ s % 2 := by unfold Tz.bit; rw [hs']; simp [List.getD, hx]
      have hbr := Tz.bit_range D (m + j)
      rw [hbit] at hbr
      have hpw : (1 : Int) ≤ 2 ^ s := by have : (1 : Nat) ≤ 2 ^ s := Nat.one_le_two_pow
                                         exact_mod_cast this
      have hd0 : 0 ≤ x / 2 ^ s := Int.ediv_nonneg x0 (by omega)
      have hd1 : x / 2 ^ s ≤ 255 := by
        have := Int.ediv_le_self (2 ^ s) x0
        omega
      have hand := u8_and_one (x / 2 ^ s) hd0 hd1
      have hsr := Tz.sym_range D m j
      have hp8 : (2 : Int) ^ j ≤ 2 ^ 8 := by
        have : (2 : Nat) ^ j ≤ 2 ^ 8 := Nat.pow_le_pow_right (by decide) (by omega)
        exact_mod_cast this
      obtain ⟨V, hV⟩ : ∃ V, V = Tz.sym D m j := ⟨_, rfl⟩
      have HV2 : Hid (2 * V + x / 2 ^ s % 2 = Tz.sym D m (j + 1)) := by show _ = _; rw [hV, ← hbit]; rfl
      rw [← hV] at hsr ⊢
      obtain ⟨v0, v1⟩ := hsr
      obtain ⟨r0, r1⟩ := hbr
      have v2 : V ≤ 1000 := by omega
      have hor := Tz.or_bit V (x / 2 ^ s % 2) v0 v2 r0 r1
      have HO := Lib.hid hor; have HA := Lib.hid hand
      have hsc : (7 : Int) - ((m : Int) + j) % 8 = (s : Int) := by omega
      have hk63 : m + j < 8388608 := by omega
      have HS := Lib.hid hs'
      clear hx hbit hV v1 hp8 hor hand hs'
      have HW := Lib.hid (show wrap64 (bits BinOp.and IntKind.u8 (x / 2 ^ s) 1) = x / 2 ^ s % 2 by rw [HA.out]; unfold wrap64; omega)
      go_wp2_with fail
      go_roundw
      case rel => exact ⟨j + 1, by omega, by rw [HW.out, HO.out, HV2.out], by simp [Int.add_assoc], trivial⟩
      case measure => simp [intOf]; omega
    · obtain rfl : j = 1 := by omega
      go_wp2_with fail
      go_ret2
      exact symP_ok (B := 1) HF.out HM.out rfl rfl rfl
set_option maxHeartbeats 4000000 in
set_option maxRecDepth 100000 in
theorem sym_ok2 (A : Option Addr) (n c : Nat) (D : List Int) (m : Nat) (i : Int) (w : World) (hl : Ints w A .u8 D) (hn : D.length = n) (hn1 : n ≤ 1048576) (hb : Byts D) (i0 : 0 ≤ i) (hm : 2 * i = m) (hs : (m : Int) + 2 ≤ 8 * n) (hF : Tz.may n 2 i = true) :
    Calls Try.prog 71 #[.slice A n c, .int .i64 2, .int .i64 i] w (SymP D n 2 i w) := by
  have HL := Lib.hid hl; have HN := Lib.hid hn; have HB := Lib.hid hb; have HF := Lib.hid hF; have HM := Lib.hid hm
  clear hl hn hb hF
  have n1 : 1 ≤ n := by omega
  have qi : i ≤ (8 * (n : Int) - 2) / 2 := by omega
  go_enter Try.func71, Try.ntmps71
  go_wp2_with fail
  go_loopw [8, 9] (fun v k wr => ∃ (j : Nat), j ≤ 2 ∧ v = .int .i64 (Tz.sym D m j) ∧ k = .int .i64 ((m + j : Nat) : Int) ∧ w = wr) (fun _ k _ => m + 2 - (intOf k).toNat)
  case atStart => exact ⟨0, by omega, rfl, by simp, rfl⟩
  case round =>
    obtain ⟨j, hj, rfl, rfl, rfl⟩ := hrel
    by_cases hlt : j < 2
    · obtain ⟨x, hx⟩ : ∃ x, D[(m + j) / 8]? = some x := ⟨_, List.getElem?_eq_getElem (by rw [HN.out]; omega)⟩
      obtain ⟨ad, rfl, hc⟩ := HL.out ((m + j) / 8) (.int .u8 x) (by simp [hx])
      obtain ⟨x0, x1⟩ := HB.out x (List.mem_of_getElem? hx)
      obtain ⟨s, hs'⟩ : ∃ s, s = 7 - (m + j) % 8 := ⟨_, rfl⟩
      have hbit : Tz.bit D (m + j) = x / 2 ^ s % 2 := by unfold Tz.bit; rw [hs']; simp [List.getD, hx]
      have hbr := Tz.bit_range D (m + j)
      rw [hbit] at hbr
      have hpw : (1 : Int) ≤ 2 ^ s := by have : (1 : Nat) ≤ 2 ^ s := Nat.one_le_two_pow
                                         exact_mod_cast this
      have hd0 : 0 ≤ x / 2 ^ s := Int.ediv_nonneg x0 (by omega)
      have hd1 : x / 2 ^ s ≤ 255 := by
        have := Int.ediv_le_self (2 ^ s) x0
        omega
      have hand := u8_and_one (x / 2 ^ s) hd0 hd1
      have hsr := Tz.sym_range D m j
      have hp8 : (2 : Int) ^ j ≤ 2 ^ 8 := by
        have : (2 : Nat) ^ j ≤ 2 ^ 8 := Nat.pow_le_pow_right (by decide) (by omega)
        exact_mod_cast this
      obtain ⟨V, hV⟩ : ∃ V, V = Tz.sym D m j := ⟨_, rfl⟩
      have HV2 : Hid (2 * V + x / 2 ^ s % 2 = Tz.sym D m (j + 1)) := by show _ = _; rw [hV, ← hbit]; rfl
      rw [← hV] at hsr ⊢
      obtain ⟨v0, v1⟩ := hsr
      obtain ⟨r0, r1⟩ := hbr
      have v2 : V ≤ 1000 := by omega
      have hor := Tz.or_bit V (x / 2 ^ s % 2) v0 v2 r0 r1
      have HO := Lib.hid hor; have HA := Lib.hid hand
      have hsc : (7 : Int) - ((m : Int) + j) % 8 = (s : Int) := by omega
      have hk63 : m + j < 8388608 := by omega
      have HS := Lib.hid hs'
      clear hx hbit hV v1 hp8 hor hand hs'
      have HW := Lib.hid (show wrap64 (bits BinOp.and IntKind.u8 (x / 2 ^ s) 1) = x / 2 ^ s % 2 by rw [HA.out]; unfold wrap64; omega)
      go_wp2_with fail
      go_roundw
      case rel => exact ⟨j + 1, by omega, by rw [HW.out, HO.out, HV2.out], by simp [Int.add_assoc], trivial⟩
      case measure => simp [intOf]; omega
    · obtain rfl : j = 2 := by omega
      go_wp2_with fail
      go_ret2
      exact symP_ok (B := 2) HF.out HM.out rfl rfl rfl
set_option maxHeartbeats 4000000 in
set_option maxRecDepth 100000 in
theorem sym_ok3 (A : Option Addr) (n c : Nat) (D : List Int) (m : Nat) (i : Int) (w : World) (hl : Ints w A .u8 D) (hn : D.length = n) (hn1 : n ≤ 1048576) (hb : Byts D) (i0 : 0 ≤ i) (hm : 3 * i = m) (hs : (m : Int) + 3 ≤ 8 * n) (hF : Tz.may n 3 i = true) :
    Calls Try.prog 71 #[.slice A n c, .int .i64 3, .int .i64 i] w (SymP D n 3 i w) := by
  have HL := Lib.hid hl; have HN := Lib.hid hn; have HB := Lib.hid hb; have HF := Lib.hid hF; have HM := Lib.hid hm
  clear hl hn hb hF
  have n1 : 1 ≤ n := by omega
  have qi : i ≤ (8 * (n : Int) - 3) / 3 := by omega
  go_enter Try.func71, Try.ntmps71
  go_wp2_with fail
  go_loopw [8, 9] (fun v k wr => ∃ (j : Nat), j ≤ 3 ∧ v = .int .i64 (Tz.sym D m j) ∧ k = .int .i64 ((m + j : Nat) : Int) ∧ w = wr) (fun _ k _ => m + 3 - (intOf k).toNat)
  case atStart => exact ⟨0, by omega, rfl, by simp, rfl⟩
  case round =>
    obtain ⟨j, hj, rfl, rfl, rfl⟩ := hrel
    by_cases hlt : j < 3
    · obtain ⟨x, hx⟩ : ∃ x, D[(m + j) / 8]? = some x := ⟨_, List.getElem?_eq_getElem (by rw [HN.out]; omega)⟩
      obtain ⟨ad, rfl, hc⟩ := HL.out ((m + j) / 8) (.int .u8 x) (by simp [hx])
      obtain ⟨x0, x1⟩ := HB.out x (List.mem_of_getElem? hx)
      obtain ⟨s, hs'⟩ : ∃ s, s = 7 - (m + j) % 8 := ⟨_, rfl⟩
      have hbit : Tz.bit D (m + j) = x / 2 ^ s % 2 := by unfold Tz.bit; rw [hs']; simp [List.getD, hx]
      have hbr := Tz.bit_range D (m + j)
      rw [hbit] at hbr
      have hpw : (1 : Int) ≤ 2 ^ s := by have : (1 : Nat) ≤ 2 ^ s := Nat.one_le_two_pow
                                         exact_mod_cast this
      have hd0 : 0 ≤ x / 2 ^ s := Int.ediv_nonneg x0 (by omega)
      have hd1 : x / 2 ^ s ≤ 255 := by
        have := Int.ediv_le_self (2 ^ s) x0
        omega
      have hand := u8_and_one (x / 2 ^ s) hd0 hd1
      have hsr := Tz.sym_range D m j
      have hp8 : (2 : Int) ^ j ≤ 2 ^ 8 := by
        have : (2 : Nat) ^ j ≤ 2 ^ 8 := Nat.pow_le_pow_right (by decide) (by omega)
        exact_mod_cast this
      obtain ⟨V, hV⟩ : ∃ V, V = Tz.sym D m j := ⟨_, rfl⟩
      have HV2 : Hid (2 * V + x / 2 ^ s % 2 = Tz.sym D m (j + 1)) := by show _ = _; rw [hV, ← hbit]; rfl
      rw [← hV] at hsr ⊢
      obtain ⟨v0, v1⟩ := hsr
      obtain ⟨r0, r1⟩ := hbr
      have v2 : V ≤ 1000 := by omega
      have hor := Tz.or_bit V (x / 2 ^ s % 2) v0 v2 r0 r1
      have HO := Lib.hid hor; have HA := Lib.hid hand
      have hsc : (7 : Int) - ((m : Int) + j) % 8 = (s : Int) := by omega
      have hk63 : m + j < 8388608 := by omega
      have HS := Lib.hid hs'
      clear hx hbit hV v1 hp8 hor hand hs'
      have HW := Lib.hid (show wrap64 (bits BinOp.and IntKind.u8 (x / 2 ^ s) 1) = x / 2 ^ s % 2 by rw [HA.out]; unfold wrap64; omega)
      go_wp2_with fail
      go_roundw
      case rel => exact ⟨j + 1, by omega, by rw [HW.out, HO.out, HV2.out], by simp [Int.add_assoc], trivial⟩
      case measure => simp [intOf]; omega
    · obtain rfl : j = 3 := by omega
      go_wp2_with fail
      go_ret2
      exact symP_ok (B := 3) HF.out HM.out rfl rfl rfl
set_option maxHeartbeats 4000000 in
set_option maxRecDepth 100000 in
theorem sym_ok4 (A : Option Addr) (n c : Nat) (D : List Int) (m : Nat) (i : Int) (w : World) (hl : Ints w A .u8 D) (hn : D.length = n) (hn1 : n ≤ 1048576) (hb : Byts D) (i0 : 0 ≤ i) (hm : 4 * i = m) (hs : (m : Int) + 4 ≤ 8 * n) (hF : Tz.may n 4 i = true) :
    Calls Try.prog 71 #[.slice A n c, .int .i64 4, .int .i64 i] w (SymP D n 4 i w) := by
  have HL := Lib.hid hl; have HN := Lib.hid hn; have HB := Lib.hid hb; have HF := Lib.hid hF; have HM := Lib.hid hm
  clear hl hn hb hF
  have n1 : 1 ≤ n := by omega
  have qi : i ≤ (8 * (n : Int) - 4) / 4 := by omega
  go_enter Try.func71, Try.ntmps71
  go_wp2_with fail
  go_loopw [8, 9] (fun v k wr => ∃ (j : Nat), j ≤ 4 ∧ v = .int .i64 (Tz.sym D m j) ∧ k = .int .i64 ((m + j : Nat) : Int) ∧ w = wr) (fun _ k _ => m + 4 - (intOf k).toNat)
  case atStart => exact ⟨0, by omega, rfl, by simp, rfl⟩
  case round =>
    obtain ⟨j, hj, rfl, rfl, rfl⟩ := hrel
    by_cases hlt : j < 4
    · obtain ⟨x, hx⟩ : ∃ x, D[(m + j) / 8]? = some x := ⟨_, List.getElem?_eq_getElem (by rw [HN.out]; omega)⟩
      obtain ⟨ad, rfl, hc⟩ := HL.out ((m + j) / 8) (.int .u8 x) (by simp [hx])
      obtain ⟨x0, x1⟩ := HB.out x (List.mem_of_getElem? hx)
      obtain ⟨s, hs'⟩ : ∃ s, s = 7 - (m + j) % 8 := ⟨_, rfl⟩
      have hbit : Tz.bit D (m + j) = x / 2 ^ s % 2 := by unfold Tz.bit; rw [hs']; simp [List.getD, hx]
      have hbr := Tz.bit_range D (m + j)
      rw [hbit] at hbr
      have hpw : (1 : Int) ≤ 2 ^ s := by have : (1 : Nat) ≤ 2 ^ s := Nat.one_le_two_pow
                                         exact_mod_cast this
      have hd0 : 0 ≤ x / 2 ^ s := Int.ediv_nonneg x0 (by omega)
      have hd1 : x / 2 ^ s ≤ 255 := by
        have := Int.ediv_le_self (2 ^ s) x0
        omega
      have hand := u8_and_one (x / 2 ^ s) hd0 hd1
      have hsr := Tz.sym_range D m j
      have hp8 : (2 : Int) ^ j ≤ 2 ^ 8 := by
        have : (2 : Nat) ^ j ≤ 2 ^ 8 := Nat.pow_le_pow_right (by decide) (by omega)
        exact_mod_cast this
      obtain ⟨V, hV⟩ : ∃ V, V = Tz.sym D m j := ⟨_, rfl⟩
      have HV2 : Hid (2 * V + x / 2 ^ s % 2 = Tz.sym D m (j + 1)) := by show _ = _; rw [hV, ← hbit]; rfl
      rw [← hV] at hsr ⊢
      obtain ⟨v0, v1⟩ := hsr
      obtain ⟨r0, r1⟩ := hbr
      have v2 : V ≤ 1000 := by omega
      have hor := Tz.or_bit V (x / 2 ^ s % 2) v0 v2 r0 r1
      have HO := Lib.hid hor; have HA := Lib.hid hand
      have hsc : (7 : Int) - ((m : Int) + j) % 8 = (s : Int) := by omega
      have hk63 : m + j < 8388608 := by omega
      have HS := Lib.hid hs'
      clear hx hbit hV v1 hp8 hor hand hs'
      have HW := Lib.hid (show wrap64 (bits BinOp.and IntKind.u8 (x / 2 ^ s) 1) = x / 2 ^ s % 2 by rw [HA.out]; unfold wrap64; omega)
      go_wp2_with fail
      go_roundw
      case rel => exact ⟨j + 1, by omega, by rw [HW.out, HO.out, HV2.out], by simp [Int.add_assoc], trivial⟩
      case measure => simp [intOf]; omega
    · obtain rfl : j = 4 := by omega
      go_wp2_with fail
      go_ret2
      exact symP_ok (B := 4) HF.out HM.out rfl rfl rfl
set_option maxHeartbeats 4000000 in
set_option maxRecDepth 100000 in
theorem sym_ok5 (A : Option Addr) (n c : Nat) (D : List Int) (m : Nat) (i : Int) (w : World) (hl : Ints w A .u8 D) (hn : D.length = n) (hn1 : n ≤ 1048576) (hb : Byts D) (i0 : 0 ≤ i) (hm : 5 * i = m) (hs : (m : Int) + 5 ≤ 8 * n) (hF : Tz.may n 5 i = true) :
    Calls Try.prog 71 #[.slice A n c, .int .i64 5, .int .i64 i] w (SymP D n 5 i w) := by
  have HL := Lib.hid hl; have HN := Lib.hid hn; have HB := Lib.hid hb; have HF := Lib.hid hF; have HM := Lib.hid hm
  clear hl hn hb hF
  have n1 : 1 ≤ n := by omega
  have qi : i ≤ (8 * (n : Int) - 5) / 5 := by omega
  go_enter Try.func71, Try.ntmps71
  go_wp2_with fail
  go_loopw [8, 9] (fun v k wr => ∃ (j : Nat), j ≤ 5 ∧ v = .int .i64 (Tz.sym D m j) ∧ k = .int .i64 ((m + j : Nat) : Int) ∧ w = wr) (fun _ k _ => m + 5 - (intOf k).toNat)
  case atStart => exact ⟨0, by omega, rfl, by simp, rfl⟩
  case round =>
    obtain ⟨j, hj, rfl, rfl, rfl⟩ := hrel
    by_cases hlt : j < 5
    · obtain ⟨x, hx⟩ : ∃ x, D[(m + j) / 8]? = some x := ⟨_, List.getElem?_eq_getElem (by rw [HN.out]; omega)⟩
      obtain ⟨ad, rfl, hc⟩ := HL.out ((m + j) / 8) (.int .u8 x) (by simp [hx])
      obtain ⟨x0, x1⟩ := HB.out x (List.mem_of_getElem? hx)
      obtain ⟨s, hs'⟩ : ∃ s, s = 7 - (m + j) % 8 := ⟨_, rfl⟩
      have hbit : Tz.bit D (m + j) = x / 2 ^ s % 2 := by unfold Tz.bit; rw [hs']; simp [List.getD, hx]
      have hbr := Tz.bit_range D (m + j)
      rw [hbit] at hbr
      have hpw : (1 : Int) ≤ 2 ^ s := by have : (1 : Nat) ≤ 2 ^ s := Nat.one_le_two_pow
                                         exact_mod_cast this
      have hd0 : 0 ≤ x / 2 ^ s := Int.ediv_nonneg x0 (by omega)
      have hd1 : x / 2 ^ s ≤ 255 := by
        have := Int.ediv_le_self (2 ^ s) x0
        omega
      have hand := u8_and_one (x / 2 ^ s) hd0 hd1
      have hsr := Tz.sym_range D m j
      have hp8 : (2 : Int) ^ j ≤ 2 ^ 8 := by
        have : (2 : Nat) ^ j ≤ 2 ^ 8 := Nat.pow_le_pow_right (by decide) (by omega)
        exact_mod_cast this
      obtain ⟨V, hV⟩ : ∃ V, V = Tz.sym D m j := ⟨_, rfl⟩
      have HV2 : Hid (2 * V + x / 2 ^ s % 2 = Tz.sym D m (j + 1)) := by show _ = _; rw [hV, ← hbit]; rfl
      rw [← hV] at hsr ⊢
      obtain ⟨v0, v1⟩ := hsr
      obtain ⟨r0, r1⟩ := hbr
      have v2 : V ≤ 1000 := by omega
      have hor := Tz.or_bit V (x / 2 ^ s % 2) v0 v2 r0 r1
      have HO := Lib.hid hor; have HA := Lib.hid hand
      have hsc : (7 : Int) - ((m : Int) + j) % 8 = (s : Int) := by omega
      have hk63 : m + j < 8388608 := by omega
      have HS := Lib.hid hs'
      clear hx hbit hV v1 hp8 hor hand hs'
      have HW := Lib.hid (show wrap64 (bits BinOp.and IntKind.u8 (x / 2 ^ s) 1) = x / 2 ^ s % 2 by rw [HA.out]; unfold wrap64; omega)
      go_wp2_with fail
      go_roundw
      case rel => exact ⟨j + 1, by omega, by rw [HW.out, HO.out, HV2.out], by simp [Int.add_assoc], trivial⟩
      case measure => simp [intOf]; omega
    · obtain rfl : j = 5 := by omega
      go_wp2_with fail
      go_ret2
      exact symP_ok (B := 5) HF.out HM.out rfl rfl rfl
set_option maxHeartbeats 4000000 in
set_option maxRecDepth 100000 in
theorem sym_ok6 (A : Option Addr) (n c : Nat) (D : List Int) (m : Nat) (i : Int) (w : World) (hl : Ints w A .u8 D) (hn : D.length = n) (hn1 : n ≤ 1048576) (hb : Byts D) (i0 : 0 ≤ i) (hm : 6 * i = m) (hs : (m : Int) + 6 ≤ 8 * n) (hF : Tz.may n 6 i = true) :
    Calls Try.prog 71 #[.slice A n c, .int .i64 6, .int .i64 i] w (SymP D n 6 i w) := by
  have HL := Lib.hid hl; have HN := Lib.hid hn; have HB := Lib.hid hb; have HF := Lib.hid hF; have HM := Lib.hid hm
  clear hl hn hb hF
  have n1 : 1 ≤ n := by omega
  have qi : i ≤ (8 * (n : Int) - 6) / 6 := by omega
  go_enter Try.func71, Try.ntmps71
  go_wp2_with fail
  go_loopw [8, 9] (fun v k wr => ∃ (j : Nat), j ≤ 6 ∧ v = .int .i64 (Tz.sym D m j) ∧ k = .int .i64 ((m + j : Nat) : Int) ∧ w = wr) (fun _ k _ => m + 6 - (intOf k).toNat)
  case atStart => exact ⟨0, by omega, rfl, by simp, rfl⟩
  case round =>
    obtain ⟨j, hj, rfl, rfl, rfl⟩ := hrel
    by_cases hlt : j < 6
    · obtain ⟨x, hx⟩ : ∃ x, D[(m + j) / 8]? = some x := ⟨_, List.getElem?_eq_getElem (by rw [HN.out]; omega)⟩
      obtain ⟨ad, rfl, hc⟩ := HL.out ((m + j) / 8) (.int .u8 x) (by simp [hx])
      obtain ⟨x0, x1⟩ := HB.out x (List.mem_of_getElem? hx)
      obtain ⟨s, hs'⟩ : ∃ s, s = 7 - (m + j) % 8 := ⟨_, rfl⟩
      have hbit : Tz.bit D (m + j) = x / 2 ^ s % 2 := by unfold Tz.bit; rw [hs']; simp [List.getD, hx]
      have hbr := Tz.bit_range D (m + j)
      rw [hbit] at hbr
      have hpw : (1 : Int) ≤ 2 ^ s := by have : (1 : Nat) ≤ 2 ^ s := Nat.one_le_two_pow
                                         exact_mod_cast this
      have hd0 : 0 ≤ x / 2 ^ s := Int.ediv_nonneg x0 (by omega)
      have hd1 : x / 2 ^ s ≤ 255 := by
        have := Int.ediv_le_self (2 ^ s) x0
        omega
      have hand := u8_and_one (x / 2 ^ s) hd0 hd1
      have hsr := Tz.sym_range D m j
      have hp8 : (2 : Int) ^ j ≤ 2 ^ 8 := by
        have : (2 : Nat) ^ j ≤ 2 ^ 8 := Nat.pow_le_pow_right (by decide) (by omega)
        exact_mod_cast this
      obtain ⟨V, hV⟩ : ∃ V, V = Tz.sym D m j := ⟨_, rfl⟩
      have HV2 : Hid (2 * V + x / 2 ^ s % 2 = Tz.sym D m (j + 1)) := by show _ = _; rw [hV, ← hbit]; rfl
      rw [← hV] at hsr ⊢
      obtain ⟨v0, v1⟩ := hsr
      obtain ⟨r0, r1⟩ := hbr
      have v2 : V ≤ 1000 := by omega
      have hor := Tz.or_bit V (x / 2 ^ s % 2) v0 v2 r0 r1
      have HO := Lib.hid hor; have HA := Lib.hid hand
      have hsc : (7 : Int) - ((m : Int) + j) % 8 = (s : Int) := by omega
      have hk63 : m + j < 8388608 := by omega
      have HS := Lib.hid hs'
      clear hx hbit hV v1 hp8 hor hand hs'
      have HW := Lib.hid (show wrap64 (bits BinOp.and IntKind.u8 (x / 2 ^ s) 1) = x / 2 ^ s % 2 by rw [HA.out]; unfold wrap64; omega)
      go_wp2_with fail
      go_roundw
      case rel => exact ⟨j + 1, by omega, by rw [HW.out, HO.out, HV2.out], by simp [Int.add_assoc], trivial⟩
      case measure => simp [intOf]; omega
    · obtain rfl : j = 6 := by omega
      go_wp2_with fail
      go_ret2
      exact symP_ok (B := 6) HF.out HM.out rfl rfl rfl
set_option maxHeartbeats 4000000 in
set_option maxRecDepth 100000 in
theorem sym_ok7 (A : Option Addr) (n c : Nat) (D : List Int) (m : Nat) (i : Int) (w : World) (hl : Ints w A .u8 D) (hn : D.length = n) (hn1 : n ≤ 1048576) (hb : Byts D) (i0 : 0 ≤ i) (hm : 7 * i = m) (hs : (m : Int) + 7 ≤ 8 * n) (hF : Tz.may n 7 i = true) :
    Calls Try.prog 71 #[.slice A n c, .int .i64 7, .int .i64 i] w (SymP D n 7 i w) := by
  have HL := Lib.hid hl; have HN := Lib.hid hn; have HB := Lib.hid hb; have HF := Lib.hid hF; have HM := Lib.hid hm
  clear hl hn hb hF
  have n1 : 1 ≤ n := by omega
  have qi : i ≤ (8 * (n : Int) - 7) / 7 := by omega
  go_enter Try.func71, Try.ntmps71
  go_wp2_with fail
  go_loopw [8, 9] (fun v k wr => ∃ (j : Nat), j ≤ 7 ∧ v = .int .i64 (Tz.sym D m j) ∧ k = .int .i64 ((m + j : Nat) : Int) ∧ w = wr) (fun _ k _ => m + 7 - (intOf k).toNat)
  case atStart => exact ⟨0, by omega, rfl, by simp, rfl⟩
  case round =>
    obtain ⟨j, hj, rfl, rfl, rfl⟩ := hrel
    by_cases hlt : j < 7
    · obtain ⟨x, hx⟩ : ∃ x, D[(m + j) / 8]? = some x := ⟨_, List.getElem?_eq_getElem (by rw [HN.out]; omega)⟩
      obtain ⟨ad, rfl, hc⟩ := HL.out ((m + j) / 8) (.int .u8 x) (by simp [hx])
      obtain ⟨x0, x1⟩ := HB.out x (List.mem_of_getElem? hx)
      obtain ⟨s, hs'⟩ : ∃ s, s = 7 - (m + j) % 8 := ⟨_, rfl⟩
      have hbit : Tz.bit D (m + j) = x / 2 ^ s % 2 := by unfold Tz.bit; rw [hs']; simp [List.getD, hx]
      have hbr := Tz.bit_range D (m + j)
      rw [hbit] at hbr
      have hpw : (1 : Int) ≤ 2 ^ s := by have : (1 : Nat) ≤ 2 ^ s := Nat.one_le_two_pow
                                         exact_mod_cast this
      have hd0 : 0 ≤ x / 2 ^ s := Int.ediv_nonneg x0 (by omega)
      have hd1 : x / 2 ^ s ≤ 255 := by
        have := Int.ediv_le_self (2 ^ s) x0
        omega
      have hand := u8_and_one (x / 2 ^ s) hd0 hd1
      have hsr := Tz.sym_range D m j
      have hp8 : (2 : Int) ^ j ≤ 2 ^ 8 := by
        have : (2 : Nat) ^ j ≤ 2 ^ 8 := Nat.pow_le_pow_right (by decide) (by omega)
        exact_mod_cast this
      obtain ⟨V, hV⟩ : ∃ V, V = Tz.sym D m j := ⟨_, rfl⟩
      have HV2 : Hid (2 * V + x / 2 ^ s % 2 = Tz.sym D m (j + 1)) := by show _ = _; rw [hV, ← hbit]; rfl
      rw [← hV] at hsr ⊢
      obtain ⟨v0, v1⟩ := hsr
      obtain ⟨r0, r1⟩ := hbr
      have v2 : V ≤ 1000 := by omega
      have hor := Tz.or_bit V (x / 2 ^ s % 2) v0 v2 r0 r1
      have HO := Lib.hid hor; have HA := Lib.hid hand
      have hsc : (7 : Int) - ((m : Int) + j) % 8 = (s : Int) := by omega
      have hk63 : m + j < 8388608 := by omega
      have HS := Lib.hid hs'
      clear hx hbit hV v1 hp8 hor hand hs'
      have HW := Lib.hid (show wrap64 (bits BinOp.and IntKind.u8 (x / 2 ^ s) 1) = x / 2 ^ s % 2 by rw [HA.out]; unfold wrap64; omega)
      go_wp2_with fail
      go_roundw
      case rel => exact ⟨j + 1, by omega, by rw [HW.out, HO.out, HV2.out], by simp [Int.add_assoc], trivial⟩
      case measure => simp [intOf]; omega
    · obtain rfl : j = 7 := by omega
      go_wp2_with fail
      go_ret2
      exact symP_ok (B := 7) HF.out HM.out rfl rfl rfl
set_option maxHeartbeats 4000000 in
set_option maxRecDepth 100000 in
theorem sym_ok8 (A : Option Addr) (n c : Nat) (D : List Int) (m : Nat) (i : Int) (w : World) (hl : Ints w A .u8 D) (hn : D.length = n) (hn1 : n ≤ 1048576) (hb : Byts D) (i0 : 0 ≤ i) (hm : 8 * i = m) (hs : (m : Int) + 8 ≤ 8 * n) (hF : Tz.may n 8 i = true) :
    Calls Try.prog 71 #[.slice A n c, .int .i64 8, .int .i64 i] w (SymP D n 8 i w) := by
  have HL := Lib.hid hl; have HN := Lib.hid hn; have HB := Lib.hid hb; have HF := Lib.hid hF; have HM := Lib.hid hm
  clear hl hn hb hF
  have n1 : 1 ≤ n := by omega
  have qi : i ≤ (8 * (n : Int) - 8) / 8 := by omega
  go_enter Try.func71, Try.ntmps71
  go_wp2_with fail
  go_loopw [8, 9] (fun v k wr => ∃ (j : Nat), j ≤ 8 ∧ v = .int .i64 (Tz.sym D m j) ∧ k = .int .i64 ((m + j : Nat) : Int) ∧ w = wr) (fun _ k _ => m + 8 - (intOf k).toNat)
  case atStart => exact ⟨0, by omega, rfl, by simp, rfl⟩
  case round =>
    obtain ⟨j, hj, rfl, rfl, rfl⟩ := hrel
    by_cases hlt : j < 8
    · obtain ⟨x, hx⟩ : ∃ x, D[(m + j) / 8]? = some x := ⟨_, List.getElem?_eq_getElem (by rw [HN.out]; omega)⟩
      obtain ⟨ad, rfl, hc⟩ := HL.out ((m + j) / 8) (.int .u8 x) (by simp [hx])
      obtain ⟨x0, x1⟩ := HB.out x (List.mem_of_getElem? hx)
      obtain ⟨s, hs'⟩ : ∃ s, s = 7 - (m + j) % 8 := ⟨_, rfl⟩
      have hbit : Tz.bit D (m + j) = x / 2 ^ s % 2 := by unfold Tz.bit; rw [hs']; simp [List.getD, hx]
      have hbr := Tz.bit_range D (m + j)
      rw [hbit] at hbr
      have hpw : (1 : Int) ≤ 2 ^ s := by have : (1 : Nat) ≤ 2 ^ s := Nat.one_le_two_pow
                                         exact_mod_cast this
      have hd0 : 0 ≤ x / 2 ^ s := Int.ediv_nonneg x0 (by omega)
      have hd1 : x / 2 ^ s ≤ 255 := by
        have := Int.ediv_le_self (2 ^ s) x0
        omega
      have hand := u8_and_one (x / 2 ^ s) hd0 hd1
      have hsr := Tz.sym_range D m j
      have hp8 : (2 : Int) ^ j ≤ 2 ^ 8 := by
        have : (2 : Nat) ^ j ≤ 2 ^ 8 := Nat.pow_le_pow_right (by decide) (by omega)
        exact_mod_cast this
      obtain ⟨V, hV⟩ : ∃ V, V = Tz.sym D m j := ⟨_, rfl⟩
      have HV2 : Hid (2 * V + x / 2 ^ s % 2 = Tz.sym D m (j + 1)) := by show _ = _; rw [hV, ← hbit]; rfl
      rw [← hV] at hsr ⊢
      obtain ⟨v0, v1⟩ := hsr
      obtain ⟨r0, r1⟩ := hbr
      have v2 : V ≤ 1000 := by omega
      have hor := Tz.or_bit V (x / 2 ^ s % 2) v0 v2 r0 r1
      have HO := Lib.hid hor; have HA := Lib.hid hand
      have hsc : (7 : Int) - ((m : Int) + j) % 8 = (s : Int) := by omega
      have hk63 : m + j < 8388608 := by omega
      have HS := Lib.hid hs'
      clear hx hbit hV v1 hp8 hor hand hs'
      have HW := Lib.hid (show wrap64 (bits BinOp.and IntKind.u8 (x / 2 ^ s) 1) = x / 2 ^ s % 2 by rw [HA.out]; unfold wrap64; omega)
      go_wp2_with fail
      go_roundw
      case rel => exact ⟨j + 1, by omega, by rw [HW.out, HO.out, HV2.out], by simp [Int.add_assoc], trivial⟩
      case measure => simp [intOf]; omega
    · obtain rfl : j = 8 := by omega
      go_wp2_with fail
      go_ret2
      exact symP_ok (B := 8) HF.out HM.out rfl rfl rfl
set_option maxHeartbeats 4000000 in
set_option maxRecDepth 100000 in
theorem symbol_any (A : Option Addr) (n c : Nat) (D : List Int) (b i : Int) (w : World) (hl : Ints w A .u8 D) (hn : D.length = n) (hn1 : n ≤ 1048576) (hb : Byts D) :
    Calls Try.prog 71 #[.slice A n c, .int .i64 b, .int .i64 i] w (SymP D n b i w) := by
  have HL := Lib.hid hl; have HN := Lib.hid hn; have HB := Lib.hid hb
  clear hl hn hb
  by_cases b0 : b < 0
  · have HF := Lib.hid (show Tz.may n b i = false by unfold Tz.may; simp; omega)
    go_enter Try.func71, Try.ntmps71
    go_wp2_with fail
    go_ret2
    exact symP_no HF.out rfl rfl
  by_cases b8 : 8 < b
  · have HF := Lib.hid (show Tz.may n b i = false by unfold Tz.may; simp; omega)
    go_enter Try.func71, Try.ntmps71
    go_wp2_with fail
    go_ret2
    exact symP_no HF.out rfl rfl
  by_cases i0 : i < 0
  · have HF := Lib.hid (show Tz.may n b i = false by unfold Tz.may; simp; omega)
    go_enter Try.func71, Try.ntmps71
    go_wp2_with fail
    go_ret2
    exact symP_no HF.out rfl rfl
  by_cases bz : b = 0
  · subst bz
    have HF := Lib.hid (show Tz.may n 0 i = true by unfold Tz.may; simp; omega)
    go_enter Try.func71, Try.ntmps71
    go_wp2_with fail
    go_loopw [8, 9] (fun v k wr => v = .int .i64 0 ∧ k = .int .i64 0 ∧ w = wr) (fun _ _ _ => 0)
    case atStart => exact ⟨rfl, by simp, rfl⟩
    case round =>
      obtain ⟨rfl, rfl, rfl⟩ := hrel
      go_wp2_with fail
      go_ret2
      refine ⟨?_, rfl⟩
      rw [HF.out]
      rfl
  have hb8 : b = 1 ∨ b = 2 ∨ b = 3 ∨ b = 4 ∨ b = 5 ∨ b = 6 ∨ b = 7 ∨ b = 8 := by omega
  by_cases hs : b * i + b ≤ 8 * (n : Int)
  · have HF := Lib.hid (show Tz.may n b i = true by unfold Tz.may; simp; omega)
    obtain ⟨m, hm⟩ := Int.eq_ofNat_of_zero_le (show 0 ≤ b * i from Int.mul_nonneg (by omega) (by omega))
    rw [hm] at hs
    rcases hb8 with rfl | rfl | rfl | rfl | rfl | rfl | rfl | rfl
    · exact sym_ok1 A n c D m i w HL.out HN.out hn1 HB.out (by omega) hm hs HF.out
    · exact sym_ok2 A n c D m i w HL.out HN.out hn1 HB.out (by omega) hm hs HF.out
    · exact sym_ok3 A n c D m i w HL.out HN.out hn1 HB.out (by omega) hm hs HF.out
    · exact sym_ok4 A n c D m i w HL.out HN.out hn1 HB.out (by omega) hm hs HF.out
    · exact sym_ok5 A n c D m i w HL.out HN.out hn1 HB.out (by omega) hm hs HF.out
    · exact sym_ok6 A n c D m i w HL.out HN.out hn1 HB.out (by omega) hm hs HF.out
    · exact sym_ok7 A n c D m i w HL.out HN.out hn1 HB.out (by omega) hm hs HF.out
    · exact sym_ok8 A n c D m i w HL.out HN.out hn1 HB.out (by omega) hm hs HF.out
  · have HF := Lib.hid (show Tz.may n b i = false by unfold Tz.may; simp; omega)
    by_cases n0 : n = 0
    · subst n0
      rcases hb8 with rfl | rfl | rfl | rfl | rfl | rfl | rfl | rfl
      all_goals
        go_enter Try.func71, Try.ntmps71
        go_wp2_with fail
        go_ret2
        exact symP_no HF.out rfl rfl
    · rcases hb8 with rfl | rfl | rfl | rfl | rfl | rfl | rfl | rfl
      all_goals
        go_enter Try.func71, Try.ntmps71
        go_wp2_with fail
        go_ret2
        exact symP_no HF.out rfl rfl
end Go.Proofs.Ytokidpajialgbaa
