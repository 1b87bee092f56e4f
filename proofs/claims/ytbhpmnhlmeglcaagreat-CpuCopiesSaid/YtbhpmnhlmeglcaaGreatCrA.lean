/- The registers as plain numbers; package wide: Of, Hi, Lo. -/
import Derived.Test.YtbhpmnhlmeglcaaGreatProg
import Derived.Test.YtbhpmnhlmeglcaaGreatMemC
import Derived.Test.YtbhpmnhlmeglcaaGreatBits
namespace Go.Proofs.YtbhpmnhlmeglcaaGreat
set_option linter.unusedSimpArgs false
set_option linter.unusedVariables false
open Go.RowKit
/-- all registers -/
structure Rg where
  (a f b c d e h l a2 f2 b2 c2 d2 e2 h2 l2 i r q ix iy sp pc wz : Int)
  (iff1 iff2 halt hold : Bool)
  (im pre : Int)
def Rg.cells (r : Rg) : List Value :=
  [.int .u8 r.a, .int .u8 r.f, .int .u8 r.b, .int .u8 r.c, .int .u8 r.d, .int .u8 r.e, .int .u8 r.h, .int .u8 r.l, .int .u8 r.a2, .int .u8 r.f2, .int .u8 r.b2, .int .u8 r.c2, .int .u8 r.d2, .int .u8 r.e2, .int .u8 r.h2, .int .u8 r.l2,
   .int .u8 r.i, .int .u8 r.r, .int .u8 r.q, .int .u16 r.ix, .int .u16 r.iy, .int .u16 r.sp, .int .u16 r.pc, .int .u16 r.wz, .bool r.iff1, .bool r.iff2, .bool r.halt, .bool r.hold, .int .u8 r.im, .int .u8 r.pre]
def B8 (x : Int) : Prop := 0 ≤ x ∧ x ≤ 255
def B16 (x : Int) : Prop := 0 ≤ x ∧ x ≤ 65535
/-- each register is a byte, or a word -/
structure Rg.Ok (r : Rg) : Prop where
  (a : B8 r.a) (f : B8 r.f) (b : B8 r.b) (c : B8 r.c) (d : B8 r.d) (e : B8 r.e) (h : B8 r.h) (l : B8 r.l) (a2 : B8 r.a2) (f2 : B8 r.f2) (b2 : B8 r.b2) (c2 : B8 r.c2) (d2 : B8 r.d2) (e2 : B8 r.e2) (h2 : B8 r.h2) (l2 : B8 r.l2)
  (i : B8 r.i) (r' : B8 r.r) (q : B8 r.q) (ix : B16 r.ix) (iy : B16 r.iy) (sp : B16 r.sp) (pc : B16 r.pc) (wz : B16 r.wz) (im : B8 r.im) (pre : B8 r.pre)
theorem or_shift8 (a b : Nat) (hb : b < 256) : a * 256 ||| b = a * 256 + b := by
  have h := Nat.shiftLeft_add_eq_or_of_lt (i := 8) hb a
  rw [Nat.shiftLeft_eq] at h
  exact h.symm
theorem u16_or_nat (a b : Nat) (ha : a < 65536) (hb : b < 65536) : bits .or .u16 (a : Int) (b : Int) = ((a ||| b : Nat) : Int) := by
  have h1 : (BitVec.ofInt 16 (a : Int)).toNat = a := by simp [BitVec.toNat_ofInt]; omega
  have h2 : (BitVec.ofInt 16 (b : Int)).toNat = b := by simp [BitVec.toNat_ofInt]; omega
  show IntKind.u16.wrap (((BitVec.ofInt 16 (a : Int) ||| BitVec.ofInt 16 (b : Int)).toNat : Nat) : Int) = _
  have h3 : a ||| b < 2 ^ 16 := Nat.or_lt_two_pow ha hb
  rw [BitVec.toNat_or, h1, h2, IntKind.wrap_u16]
  omega
theorem u16_of (a b : Int) (ha : B8 a) (hb : B8 b) : bits .or .u16 (a * 256) b = a * 256 + b := by
  obtain ⟨a0, a1⟩ := ha
  obtain ⟨b0, b1⟩ := hb
  obtain ⟨n, rfl⟩ := Int.eq_ofNat_of_zero_le a0
  obtain ⟨m, rfl⟩ := Int.eq_ofNat_of_zero_le b0
  have h := u16_or_nat (n * 256) m (by omega) (by omega)
  rw [or_shift8 n m (by omega)] at h
  rw [show ((n * 256 : Nat) : Int) = (n : Int) * 256 from by omega] at h
  rw [h]
  omega
set_option maxHeartbeats 400000 in
theorem wideOf_any (a b : Int) (w : World) (ha : B8 a) (hb : B8 b) : Calls Tryz.prog 38 #[.int .u8 a, .int .u8 b] w fun e w' => e = .returned (.int .u16 (a * 256 + b)) ∧ w = w' := by
  have e := u16_of a b ha hb
  obtain ⟨a0, a1⟩ := ha
  obtain ⟨b0, b1⟩ := hb
  go_enter Tryz.func38, Tryz.ntmps38
  go_wp2
  go_ret
  exact ⟨rfl, rfl⟩
set_option maxHeartbeats 400000 in
theorem wideHi_any (x : Int) (w : World) (hx : B16 x) : Calls Tryz.prog 76 #[.int .u16 x] w fun e w' => e = .returned (.int .u8 (x / 256)) ∧ w = w' := by
  obtain ⟨x0, x1⟩ := hx
  go_enter Tryz.func76, Tryz.ntmps76
  go_wp2
  go_ret
  exact ⟨rfl, rfl⟩
set_option maxHeartbeats 400000 in
theorem wideLo_any (x : Int) (w : World) (hx : B16 x) : Calls Tryz.prog 70 #[.int .u16 x] w fun e w' => e = .returned (.int .u8 (x % 256)) ∧ w = w' := by
  obtain ⟨x0, x1⟩ := hx
  go_enter Tryz.func70, Tryz.ntmps70
  go_wp2
  go_ret
  exact ⟨rfl, rfl⟩
/-- where an index is -/
def idxP (g : Nat) (ix : Int) : Option Addr := if ix = 1 then some ⟨g, 19, none⟩ else if ix = 2 then some ⟨g, 20, none⟩ else none
/-- where a byte is -/
def plcP (g : Nat) (k : Int) : Option Addr :=
  if k = 0 then some ⟨g, 2, none⟩ else if k = 1 then some ⟨g, 3, none⟩ else if k = 2 then some ⟨g, 4, none⟩ else if k = 3 then some ⟨g, 5, none⟩ else if k = 4 then some ⟨g, 6, none⟩ else if k = 5 then some ⟨g, 7, none⟩ else if k = 7 then some ⟨g, 0, none⟩ else none
set_option maxHeartbeats 400000 in
theorem index_any (g : Nat) (ix : Int) (w : World) : Calls Tryz.prog 62 #[.pointer (some ⟨g, 0, none⟩), .int .i64 ix] w fun e w' => e = .returned (.pointer (idxP g ix)) ∧ w = w' := by
  unfold idxP
  have kx : ix = 1 ∨ ix = 2 ∨ (ix ≠ 1 ∧ ix ≠ 2) := by omega
  rcases kx with rfl | rfl | ⟨k1, k2⟩
  · go_enter Tryz.func62, Tryz.ntmps62
    go_wp2
    go_ret
    exact ⟨rfl, rfl⟩
  · go_enter Tryz.func62, Tryz.ntmps62
    go_wp2
    go_ret
    exact ⟨rfl, rfl⟩
  · have b1 : (ix == 1) = false := by simp [k1]
    have b2 : (ix == 2) = false := by simp [k2]
    rw [if_neg k1, if_neg k2]
    go_enter Tryz.func62, Tryz.ntmps62
    go_wp2
    go_ret
    exact ⟨rfl, rfl⟩
set_option maxHeartbeats 1000000 in
theorem rplace_any (g : Nat) (k : Int) (w : World) : Calls Tryz.prog 121 #[.pointer (some ⟨g, 0, none⟩), .int .i64 k] w fun e w' => e = .returned (.pointer (plcP g k)) ∧ w = w' := by
  unfold plcP
  have kx : k = 0 ∨ k = 1 ∨ k = 2 ∨ k = 3 ∨ k = 4 ∨ k = 5 ∨ k = 7 ∨ (k ≠ 0 ∧ k ≠ 1 ∧ k ≠ 2 ∧ k ≠ 3 ∧ k ≠ 4 ∧ k ≠ 5 ∧ k ≠ 7) := by omega
  rcases kx with rfl | rfl | rfl | rfl | rfl | rfl | rfl | ⟨k0, k1, k2, k3, k4, k5, k7⟩
  case inr.inr.inr.inr.inr.inr.inr =>
    have b0 : (k == 0) = false := by simp [k0]
    have b1 : (k == 1) = false := by simp [k1]
    have b2 : (k == 2) = false := by simp [k2]
    have b3 : (k == 3) = false := by simp [k3]
    have b4 : (k == 4) = false := by simp [k4]
    have b5 : (k == 5) = false := by simp [k5]
    have b7 : (k == 7) = false := by simp [k7]
    rw [if_neg k0, if_neg k1, if_neg k2, if_neg k3, if_neg k4, if_neg k5, if_neg k7]
    go_enter Tryz.func121, Tryz.ntmps121
    go_wp2
    go_ret
    exact ⟨rfl, rfl⟩
  all_goals
    go_enter Tryz.func121, Tryz.ntmps121
    go_wp2
    go_ret
    exact ⟨rfl, rfl⟩
end Go.Proofs.YtbhpmnhlmeglcaaGreat
