/- Texts that are laid together: Reg. -/
import Derived.WalkKit
import Derived.Test.YtbhpmnhlmeglcaaGreatProg
import Derived.Test.YtbhpmnhlmeglcaaGreatTMem
import Derived.StillTailTactics
import Derived.Handy
import Derived.BigRegion
namespace Go.Proofs.YtbhpmnhlmeglcaaGreat
open Go.RowKit
theorem i64_or_nat (a b : Nat) (ha : a < 9223372036854775808) (hb : b < 9223372036854775808) : bits .or .i64 (a : Int) (b : Int) = ((a ||| b : Nat) : Int) := by
  have h1 : (BitVec.ofInt 64 (a : Int)).toNat = a := ofInt_u64 a (by omega)
  have h2 : (BitVec.ofInt 64 (b : Int)).toNat = b := ofInt_u64 b (by omega)
  show IntKind.i64.wrap (((BitVec.ofInt 64 (a : Int) ||| BitVec.ofInt 64 (b : Int)).toNat : Nat) : Int) = _
  have h3 : a ||| b < 2 ^ 63 := Nat.or_lt_two_pow (by omega) (by omega)
  rw [BitVec.toNat_or, h1, h2, IntWalk.i64_in _ ⟨by omega, by omega⟩]
theorem i64_and_nat (a b : Nat) (ha : a < 9223372036854775808) (hb : b < 9223372036854775808) : bits .and .i64 (a : Int) (b : Int) = ((a &&& b : Nat) : Int) := by
  have h1 : (BitVec.ofInt 64 (a : Int)).toNat = a := ofInt_u64 a (by omega)
  have h2 : (BitVec.ofInt 64 (b : Int)).toNat = b := ofInt_u64 b (by omega)
  show IntKind.i64.wrap (((BitVec.ofInt 64 (a : Int) &&& BitVec.ofInt 64 (b : Int)).toNat : Nat) : Int) = _
  have h3 : a &&& b < 2 ^ 63 := Nat.and_lt_two_pow a (by omega)
  rw [BitVec.toNat_and, h1, h2, IntWalk.i64_in _ ⟨by omega, by omega⟩]
theorem i64_xor_nat (a b : Nat) (ha : a < 9223372036854775808) (hb : b < 9223372036854775808) : bits .xor .i64 (a : Int) (b : Int) = ((a ^^^ b : Nat) : Int) := by
  have h1 : (BitVec.ofInt 64 (a : Int)).toNat = a := ofInt_u64 a (by omega)
  have h2 : (BitVec.ofInt 64 (b : Int)).toNat = b := ofInt_u64 b (by omega)
  show IntKind.i64.wrap (((BitVec.ofInt 64 (a : Int) ^^^ BitVec.ofInt 64 (b : Int)).toNat : Nat) : Int) = _
  have h3 : a ^^^ b < 2 ^ 63 := Nat.xor_lt_two_pow (by omega) (by omega)
  rw [BitVec.toNat_xor, h1, h2, IntWalk.i64_in _ ⟨by omega, by omega⟩]
end Go.Proofs.YtbhpmnhlmeglcaaGreat
namespace Go.Proofs.YtbhpmnhlmeglcaaGreat
set_option linter.unusedSimpArgs false
set_option linter.unusedVariables false
open Go.RowKit
/-- all registers -/
structure Rg where
  (a f b c d e h l a2 f2 b2 c2 d2 e2 h2 l2 i r q ix iy sp pc wz : Int)
  (iff1 iff2 halt hold : Bool)
  (im pre : Int)
def Rg.cells (r : Rg) : List Value :=
  [.int .u8 r.a, .int .u8 r.f, .int .u8 r.b, .int .u8 r.c, .int .u8 r.d, .int .u8 r.e, .int .u8 r.h, .int .u8 r.l, .int .u8 r.a2, .int .u8 r.f2, .int .u8 r.b2, .int .u8 r.c2, .int .u8 r.d2, .int .u8 r.e2, .int .u8 r.h2, .int .u8 r.l2,
   .int .u8 r.i, .int .u8 r.r, .int .u8 r.q, .int .u16 r.ix, .int .u16 r.iy, .int .u16 r.sp, .int .u16 r.pc, .int .u16 r.wz, .bool r.iff1, .bool r.iff2, .bool r.halt, .bool r.hold, .int .u8 r.im, .int .u8 r.pre]
def B8 (x : Int) : Prop := 0 ≤ x ∧ x ≤ 255
def B16 (x : Int) : Prop := 0 ≤ x ∧ x ≤ 65535
/-- each register is a byte, or a word -/
structure Rg.Ok (r : Rg) : Prop where
  (a : B8 r.a) (f : B8 r.f) (b : B8 r.b) (c : B8 r.c) (d : B8 r.d) (e : B8 r.e) (h : B8 r.h) (l : B8 r.l) (a2 : B8 r.a2) (f2 : B8 r.f2) (b2 : B8 r.b2) (c2 : B8 r.c2) (d2 : B8 r.d2) (e2 : B8 r.e2) (h2 : B8 r.h2) (l2 : B8 r.l2)
  (i : B8 r.i) (r' : B8 r.r) (q : B8 r.q) (ix : B16 r.ix) (iy : B16 r.iy) (sp : B16 r.sp) (pc : B16 r.pc) (wz : B16 r.wz) (im : B8 r.im) (pre : B8 r.pre)
theorem or_shift8 (a b : Nat) (hb : b < 256) : a * 256 ||| b = a * 256 + b := by
  have h := Nat.shiftLeft_add_eq_or_of_lt (i := 8) hb a
  rw [Nat.shiftLeft_eq] at h
  exact h.symm
theorem u16_or_nat (a b : Nat) (ha : a < 65536) (hb : b < 65536) : bits .or .u16 (a : Int) (b : Int) = ((a ||| b : Nat) : Int) := by
  have h1 : (BitVec.ofInt 16 (a : Int)).toNat = a := by simp [BitVec.toNat_ofInt]; omega
  have h2 : (BitVec.ofInt 16 (b : Int)).toNat = b := by simp [BitVec.toNat_ofInt]; omega
  show IntKind.u16.wrap (((BitVec.ofInt 16 (a : Int) ||| BitVec.ofInt 16 (b : Int)).toNat : Nat) : Int) = _
  have h3 : a ||| b < 2 ^ 16 := Nat.or_lt_two_pow ha hb
  rw [BitVec.toNat_or, h1, h2, IntKind.wrap_u16]
  omega
theorem u16_of (a b : Int) (ha : B8 a) (hb : B8 b) : bits .or .u16 (a * 256) b = a * 256 + b := by
  obtain ⟨a0, a1⟩ := ha
  obtain ⟨b0, b1⟩ := hb
  obtain ⟨n, rfl⟩ := Int.eq_ofNat_of_zero_le a0
  obtain ⟨m, rfl⟩ := Int.eq_ofNat_of_zero_le b0
  have h := u16_or_nat (n * 256) m (by omega) (by omega)
  rw [or_shift8 n m (by omega)] at h
  rw [show ((n * 256 : Nat) : Int) = (n : Int) * 256 from by omega] at h
  rw [h]
  omega
set_option maxHeartbeats 400000 in
theorem wideOf_any (a b : Int) (w : World) (ha : B8 a) (hb : B8 b) : Calls Tryz.prog 38 #[.int .u8 a, .int .u8 b] w fun e w' => e = .returned (.int .u16 (a * 256 + b)) ∧ w = w' := by
  have e := u16_of a b ha hb
  obtain ⟨a0, a1⟩ := ha
  obtain ⟨b0, b1⟩ := hb
  go_enter Tryz.func38, Tryz.ntmps38
  go_wp2
  go_ret
  exact ⟨rfl, rfl⟩
set_option maxHeartbeats 400000 in
theorem wideHi_any (x : Int) (w : World) (hx : B16 x) : Calls Tryz.prog 76 #[.int .u16 x] w fun e w' => e = .returned (.int .u8 (x / 256)) ∧ w = w' := by
  obtain ⟨x0, x1⟩ := hx
  go_enter Tryz.func76, Tryz.ntmps76
  go_wp2
  go_ret
  exact ⟨rfl, rfl⟩
set_option maxHeartbeats 400000 in
theorem wideLo_any (x : Int) (w : World) (hx : B16 x) : Calls Tryz.prog 70 #[.int .u16 x] w fun e w' => e = .returned (.int .u8 (x % 256)) ∧ w = w' := by
  obtain ⟨x0, x1⟩ := hx
  go_enter Tryz.func70, Tryz.ntmps70
  go_wp2
  go_ret
  exact ⟨rfl, rfl⟩
/-- where an index is -/
def idxP (g : Nat) (ix : Int) : Option Addr := if ix = 1 then some ⟨g, 19, none⟩ else if ix = 2 then some ⟨g, 20, none⟩ else none
/-- where a byte is -/
def plcP (g : Nat) (k : Int) : Option Addr :=
  if k = 0 then some ⟨g, 2, none⟩ else if k = 1 then some ⟨g, 3, none⟩ else if k = 2 then some ⟨g, 4, none⟩ else if k = 3 then some ⟨g, 5, none⟩ else if k = 4 then some ⟨g, 6, none⟩ else if k = 5 then some ⟨g, 7, none⟩ else if k = 7 then some ⟨g, 0, none⟩ else none
set_option maxHeartbeats 400000 in
theorem index_any (g : Nat) (ix : Int) (w : World) : Calls Tryz.prog 62 #[.pointer (some ⟨g, 0, none⟩), .int .i64 ix] w fun e w' => e = .returned (.pointer (idxP g ix)) ∧ w = w' := by
  unfold idxP
  have kx : ix = 1 ∨ ix = 2 ∨ (ix ≠ 1 ∧ ix ≠ 2) := by omega
  rcases kx with rfl | rfl | ⟨k1, k2⟩
  · go_enter Tryz.func62, Tryz.ntmps62
    go_wp2
    go_ret
    exact ⟨rfl, rfl⟩
  · go_enter Tryz.func62, Tryz.ntmps62
    go_wp2
    go_ret
    exact ⟨rfl, rfl⟩
  · have b1 : (ix == 1) = false := by simp [k1]
    have b2 : (ix == 2) = false := by simp [k2]
    rw [if_neg k1, if_neg k2]
    go_enter Tryz.func62, Tryz.ntmps62
    go_wp2
    go_ret
    exact ⟨rfl, rfl⟩
set_option maxHeartbeats 1000000 in
theorem rplace_any (g : Nat) (k : Int) (w : World) : Calls Tryz.prog 121 #[.pointer (some ⟨g, 0, none⟩), .int .i64 k] w fun e w' => e = .returned (.pointer (plcP g k)) ∧ w = w' := by
  unfold plcP
  have kx : k = 0 ∨ k = 1 ∨ k = 2 ∨ k = 3 ∨ k = 4 ∨ k = 5 ∨ k = 7 ∨ (k ≠ 0 ∧ k ≠ 1 ∧ k ≠ 2 ∧ k ≠ 3 ∧ k ≠ 4 ∧ k ≠ 5 ∧ k ≠ 7) := by omega
  rcases kx with rfl | rfl | rfl | rfl | rfl | rfl | rfl | ⟨k0, k1, k2, k3, k4, k5, k7⟩
  case inr.inr.inr.inr.inr.inr.inr =>
    have b0 : (k == 0) = false := by simp [k0]
    have b1 : (k == 1) = false := by simp [k1]
    have b2 : (k == 2) = false := by simp [k2]
    have b3 : (k == 3) = false := by simp [k3]
    have b4 : (k == 4) = false := by simp [k4]
    have b5 : (k == 5) = false := by simp [k5]
    have b7 : (k == 7) = false := by simp [k7]
    rw [if_neg k0, if_neg k1, if_neg k2, if_neg k3, if_neg k4, if_neg k5, if_neg k7]
    go_enter Tryz.func121, Tryz.ntmps121
    go_wp2
    go_ret
    exact ⟨rfl, rfl⟩
  all_goals
    go_enter Tryz.func121, Tryz.ntmps121
    go_wp2
    go_ret
    exact ⟨rfl, rfl⟩
end Go.Proofs.YtbhpmnhlmeglcaaGreat
namespace Go.Proofs.YtbhpmnhlmeglcaaGreat
set_option linter.unusedSimpArgs false
set_option linter.unusedVariables false
open Go.RowKit
theorem same_swap {P : Program} {f : FuncId} {args : Array Value} {w : World} {v : Value} (h : Calls P f args w fun e w' => e = .returned v ∧ w = w') : Calls P f args w fun e w' => e = .returned v ∧ w' = w := h.mono fun _ _ ⟨h1, h2⟩ => ⟨h1, h2.symm⟩
set_option maxHeartbeats 1000000 in
theorem af_any (r : Rg) (T : TypeId) (X : List Value) (g : Nat) (w : World) (hb : Blk w g T (r.cells ++ X)) (hr : r.Ok) :
    Calls Tryz.prog 136 #[.pointer (some ⟨g, 0, none⟩)] w fun e w' => e = .returned (.int .u16 (r.a * 256 + r.f)) ∧ Drew w w' := by
  have c0 : w.cell? ⟨g, 0, none⟩ = some (.int .u8 r.a) := hb.cell 0
  have c1 : w.cell? ⟨g, 1, none⟩ = some (.int .u8 r.f) := hb.cell 1
  have k0 := hr.a
  have k1 := hr.f
  go_enter Tryz.func136, Tryz.ntmps136
  go_wp2_with fail
  go_quiet ((go_at_call 38; exact Calls.quiet_of_same (same_swap (wideOf_any _ _ _ k0 k1))))
  go_wp2_with fail
  go_ret
  exact ⟨rfl, _, rfl⟩
set_option maxHeartbeats 1000000 in
theorem ir_any (r : Rg) (T : TypeId) (X : List Value) (g : Nat) (w : World) (hb : Blk w g T (r.cells ++ X)) (hr : r.Ok) :
    Calls Tryz.prog 87 #[.pointer (some ⟨g, 0, none⟩)] w fun e w' => e = .returned (.int .u16 (r.i * 256 + r.r)) ∧ Drew w w' := by
  have c0 : w.cell? ⟨g, 16, none⟩ = some (.int .u8 r.i) := hb.cell 16
  have c1 : w.cell? ⟨g, 17, none⟩ = some (.int .u8 r.r) := hb.cell 17
  have k0 := hr.i
  have k1 := hr.r'
  go_enter Tryz.func87, Tryz.ntmps87
  go_wp2_with fail
  go_quiet ((go_at_call 38; exact Calls.quiet_of_same (same_swap (wideOf_any _ _ _ k0 k1))))
  go_wp2_with fail
  go_ret
  exact ⟨rfl, _, rfl⟩
/-- a pair by its number -/
def Rg.pair (r : Rg) (k ix : Int) : Int :=
  if k = 0 then r.b * 256 + r.c else if k = 1 then r.d * 256 + r.e else if k = 2 then (if ix = 1 then r.ix else if ix = 2 then r.iy else r.h * 256 + r.l) else if k = 3 then r.sp else 0
set_option maxHeartbeats 2000000 in
theorem pair_any (r : Rg) (T : TypeId) (X : List Value) (g : Nat) (k ix : Int) (w : World) (hb : Blk w g T (r.cells ++ X)) (hr : r.Ok) :
    Calls Tryz.prog 44 #[.pointer (some ⟨g, 0, none⟩), .int .i64 k, .int .i64 ix] w fun e w' => e = .returned (.int .u16 (r.pair k ix)) ∧ Drew w w' := by
  obtain ⟨R, hR⟩ : ∃ R, R = r.pair k ix := ⟨_, rfl⟩
  rw [← hR]
  unfold Rg.pair at hR
  have HI := Lib.hid (fun w => index_any g ix w)
  have kk : k = 0 ∨ k = 1 ∨ k = 2 ∨ k = 3 ∨ (k ≠ 0 ∧ k ≠ 1 ∧ k ≠ 2 ∧ k ≠ 3) := by omega
  rcases kk with rfl | rfl | rfl | rfl | ⟨n0, n1, n2, n3⟩
  · simp at hR
    subst hR
    have c0 : w.cell? ⟨g, 2, none⟩ = some (.int .u8 r.b) := hb.cell 2
    have c1 : w.cell? ⟨g, 3, none⟩ = some (.int .u8 r.c) := hb.cell 3
    have k0 := hr.b
    have k1 := hr.c
    go_enter Tryz.func44, Tryz.ntmps44
    go_wp2_with (first | (go_at_call 62; refine (HI.out _).mono ?_; rintro e w' ⟨rfl, rfl⟩))
    go_quiet ((go_at_call 38; exact Calls.quiet_of_same (same_swap (wideOf_any _ _ _ k0 k1))))
    go_wp2_with fail
    go_ret
    exact ⟨rfl, _, rfl⟩
  · simp at hR
    subst hR
    have c0 : w.cell? ⟨g, 4, none⟩ = some (.int .u8 r.d) := hb.cell 4
    have c1 : w.cell? ⟨g, 5, none⟩ = some (.int .u8 r.e) := hb.cell 5
    have k0 := hr.d
    have k1 := hr.e
    go_enter Tryz.func44, Tryz.ntmps44
    go_wp2_with (first | (go_at_call 62; refine (HI.out _).mono ?_; rintro e w' ⟨rfl, rfl⟩))
    go_quiet ((go_at_call 38; exact Calls.quiet_of_same (same_swap (wideOf_any _ _ _ k0 k1))))
    go_wp2_with fail
    go_ret
    exact ⟨rfl, _, rfl⟩
  · simp at hR
    have kx : ix = 1 ∨ ix = 2 ∨ (ix ≠ 1 ∧ ix ≠ 2) := by omega
    rcases kx with rfl | rfl | ⟨x1, x2⟩
    · simp at hR
      subst hR
      have HI : Hid (∀ w, Calls Tryz.prog 62 #[.pointer (some ⟨g, 0, none⟩), .int .i64 1] w fun e w' => e = .returned (.pointer (some ⟨g, 19, none⟩)) ∧ w = w') := HI
      have c0 : w.cell? ⟨g, 19, none⟩ = some (.int .u16 r.ix) := hb.cell 19
      go_enter Tryz.func44, Tryz.ntmps44
      go_wp2_with (first | (go_at_call 62; refine (HI.out _).mono ?_; rintro e w' ⟨rfl, rfl⟩))
      go_ret
      exact ⟨rfl, 0, rfl⟩
    · simp at hR
      subst hR
      have HI : Hid (∀ w, Calls Tryz.prog 62 #[.pointer (some ⟨g, 0, none⟩), .int .i64 2] w fun e w' => e = .returned (.pointer (some ⟨g, 20, none⟩)) ∧ w = w') := HI
      have c0 : w.cell? ⟨g, 20, none⟩ = some (.int .u16 r.iy) := hb.cell 20
      go_enter Tryz.func44, Tryz.ntmps44
      go_wp2_with (first | (go_at_call 62; refine (HI.out _).mono ?_; rintro e w' ⟨rfl, rfl⟩))
      go_ret
      exact ⟨rfl, 0, rfl⟩
    · rw [if_neg x1, if_neg x2] at hR
      subst hR
      have HI : Hid (∀ w, Calls Tryz.prog 62 #[.pointer (some ⟨g, 0, none⟩), .int .i64 ix] w fun e w' => e = .returned (.pointer (none)) ∧ w = w') := by
          have h := HI.out
          unfold idxP at h
          rw [if_neg x1, if_neg x2] at h
          exact h
      have c0 : w.cell? ⟨g, 6, none⟩ = some (.int .u8 r.h) := hb.cell 6
      have c1 : w.cell? ⟨g, 7, none⟩ = some (.int .u8 r.l) := hb.cell 7
      have k0 := hr.h
      have k1 := hr.l
      go_enter Tryz.func44, Tryz.ntmps44
      go_wp2_with (first | (go_at_call 62; refine (HI.out _).mono ?_; rintro e w' ⟨rfl, rfl⟩))
      go_quiet ((go_at_call 38; exact Calls.quiet_of_same (same_swap (wideOf_any _ _ _ k0 k1))))
      go_wp2_with fail
      go_ret
      exact ⟨rfl, _, rfl⟩
  · simp at hR
    subst hR
    have c0 : w.cell? ⟨g, 21, none⟩ = some (.int .u16 r.sp) := hb.cell 21
    go_enter Tryz.func44, Tryz.ntmps44
    go_wp2_with fail
    go_ret
    exact ⟨rfl, 0, rfl⟩
  · rw [if_neg n0, if_neg n1, if_neg n2, if_neg n3] at hR
    subst hR
    have b0 : (k == 0) = false := by simp [n0]
    have b1 : (k == 1) = false := by simp [n1]
    have b2 : (k == 2) = false := by simp [n2]
    have b3 : (k == 3) = false := by simp [n3]
    go_enter Tryz.func44, Tryz.ntmps44
    go_wp2_with fail
    go_ret
    exact ⟨rfl, 0, rfl⟩
/-- a byte by its number -/
def Rg.byte (r : Rg) (k ix : Int) : Int :=
  if k = 0 then r.b else if k = 1 then r.c else if k = 2 then r.d else if k = 3 then r.e else
  if k = 4 then (if ix = 1 then r.ix / 256 else if ix = 2 then r.iy / 256 else r.h) else if k = 5 then (if ix = 1 then r.ix % 256 else if ix = 2 then r.iy % 256 else r.l) else if k = 7 then r.a else 0
set_option maxHeartbeats 4000000 in
theorem byte_any (r : Rg) (T : TypeId) (X : List Value) (g : Nat) (k ix : Int) (w : World) (hb : Blk w g T (r.cells ++ X)) (hr : r.Ok) :
    Calls Tryz.prog 77 #[.pointer (some ⟨g, 0, none⟩), .int .i64 k, .int .i64 ix] w fun e w' => e = .returned (.int .u8 (r.byte k ix)) ∧ w = w' := by
  obtain ⟨R, hR⟩ : ∃ R, R = r.byte k ix := ⟨_, rfl⟩
  rw [← hR]
  unfold Rg.byte at hR
  have HI := Lib.hid (fun w => index_any g ix w)
  have HP := Lib.hid (fun w => rplace_any g k w)
  have wx := hr.ix
  have wy := hr.iy
  have kx : ix = 1 ∨ ix = 2 ∨ (ix ≠ 1 ∧ ix ≠ 2) := by omega
  have kk : k = 4 ∨ k = 5 ∨ k = 0 ∨ k = 1 ∨ k = 2 ∨ k = 3 ∨ k = 7 ∨ (k ≠ 0 ∧ k ≠ 1 ∧ k ≠ 2 ∧ k ≠ 3 ∧ k ≠ 4 ∧ k ≠ 5 ∧ k ≠ 7) := by omega
  rcases kx with rfl | rfl | ⟨x1, x2⟩
  · have HI : Hid (∀ w, Calls Tryz.prog 62 #[.pointer (some ⟨g, 0, none⟩), .int .i64 1] w fun e w' => e = .returned (.pointer (some ⟨g, 19, none⟩)) ∧ w = w') := HI
    rcases kk with rfl | rfl | rfl | rfl | rfl | rfl | rfl | ⟨n0, n1, n2, n3, n4, n5, n7⟩
    · simp at hR
      subst hR
      have c0 : w.cell? ⟨g, 19, none⟩ = some (.int .u16 r.ix) := hb.cell 19
      go_enter Tryz.func77, Tryz.ntmps77
      go_wp2_with (first
        | (go_at_call 62; refine (HI.out _).mono ?_; rintro e w' ⟨rfl, rfl⟩)
        | (go_at_call 121; refine (HP.out _).mono ?_; rintro e w' ⟨rfl, rfl⟩)
        | (go_at_call 76; refine (wideHi_any _ _ wx).mono ?_; rintro e w' ⟨rfl, rfl⟩)
        | (go_at_call 70; refine (wideLo_any _ _ wx).mono ?_; rintro e w' ⟨rfl, rfl⟩))
      go_ret
      exact ⟨rfl, rfl⟩
    · simp at hR
      subst hR
      have c0 : w.cell? ⟨g, 19, none⟩ = some (.int .u16 r.ix) := hb.cell 19
      go_enter Tryz.func77, Tryz.ntmps77
      go_wp2_with (first
        | (go_at_call 62; refine (HI.out _).mono ?_; rintro e w' ⟨rfl, rfl⟩)
        | (go_at_call 121; refine (HP.out _).mono ?_; rintro e w' ⟨rfl, rfl⟩)
        | (go_at_call 76; refine (wideHi_any _ _ wx).mono ?_; rintro e w' ⟨rfl, rfl⟩)
        | (go_at_call 70; refine (wideLo_any _ _ wx).mono ?_; rintro e w' ⟨rfl, rfl⟩))
      go_ret
      exact ⟨rfl, rfl⟩
    · simp at hR
      subst hR
      have HP : Hid (∀ w, Calls Tryz.prog 121 #[.pointer (some ⟨g, 0, none⟩), .int .i64 0] w fun e w' => e = .returned (.pointer (some ⟨g, 2, none⟩)) ∧ w = w') := HP
      have c0 : w.cell? ⟨g, 2, none⟩ = some (.int .u8 r.b) := hb.cell 2
      go_enter Tryz.func77, Tryz.ntmps77
      go_wp2_with (first
        | (go_at_call 62; refine (HI.out _).mono ?_; rintro e w' ⟨rfl, rfl⟩)
        | (go_at_call 121; refine (HP.out _).mono ?_; rintro e w' ⟨rfl, rfl⟩)
        | (go_at_call 76; refine (wideHi_any _ _ wx).mono ?_; rintro e w' ⟨rfl, rfl⟩)
        | (go_at_call 70; refine (wideLo_any _ _ wx).mono ?_; rintro e w' ⟨rfl, rfl⟩))
      go_ret
      exact ⟨rfl, rfl⟩
    · simp at hR
      subst hR
      have HP : Hid (∀ w, Calls Tryz.prog 121 #[.pointer (some ⟨g, 0, none⟩), .int .i64 1] w fun e w' => e = .returned (.pointer (some ⟨g, 3, none⟩)) ∧ w = w') := HP
      have c0 : w.cell? ⟨g, 3, none⟩ = some (.int .u8 r.c) := hb.cell 3
      go_enter Tryz.func77, Tryz.ntmps77
      go_wp2_with (first
        | (go_at_call 62; refine (HI.out _).mono ?_; rintro e w' ⟨rfl, rfl⟩)
        | (go_at_call 121; refine (HP.out _).mono ?_; rintro e w' ⟨rfl, rfl⟩)
        | (go_at_call 76; refine (wideHi_any _ _ wx).mono ?_; rintro e w' ⟨rfl, rfl⟩)
        | (go_at_call 70; refine (wideLo_any _ _ wx).mono ?_; rintro e w' ⟨rfl, rfl⟩))
      go_ret
      exact ⟨rfl, rfl⟩
    · simp at hR
      subst hR
      have HP : Hid (∀ w, Calls Tryz.prog 121 #[.pointer (some ⟨g, 0, none⟩), .int .i64 2] w fun e w' => e = .returned (.pointer (some ⟨g, 4, none⟩)) ∧ w = w') := HP
      have c0 : w.cell? ⟨g, 4, none⟩ = some (.int .u8 r.d) := hb.cell 4
      go_enter Tryz.func77, Tryz.ntmps77
      go_wp2_with (first
        | (go_at_call 62; refine (HI.out _).mono ?_; rintro e w' ⟨rfl, rfl⟩)
        | (go_at_call 121; refine (HP.out _).mono ?_; rintro e w' ⟨rfl, rfl⟩)
        | (go_at_call 76; refine (wideHi_any _ _ wx).mono ?_; rintro e w' ⟨rfl, rfl⟩)
        | (go_at_call 70; refine (wideLo_any _ _ wx).mono ?_; rintro e w' ⟨rfl, rfl⟩))
      go_ret
      exact ⟨rfl, rfl⟩
    · simp at hR
      subst hR
      have HP : Hid (∀ w, Calls Tryz.prog 121 #[.pointer (some ⟨g, 0, none⟩), .int .i64 3] w fun e w' => e = .returned (.pointer (some ⟨g, 5, none⟩)) ∧ w = w') := HP
      have c0 : w.cell? ⟨g, 5, none⟩ = some (.int .u8 r.e) := hb.cell 5
      go_enter Tryz.func77, Tryz.ntmps77
      go_wp2_with (first
        | (go_at_call 62; refine (HI.out _).mono ?_; rintro e w' ⟨rfl, rfl⟩)
        | (go_at_call 121; refine (HP.out _).mono ?_; rintro e w' ⟨rfl, rfl⟩)
        | (go_at_call 76; refine (wideHi_any _ _ wx).mono ?_; rintro e w' ⟨rfl, rfl⟩)
        | (go_at_call 70; refine (wideLo_any _ _ wx).mono ?_; rintro e w' ⟨rfl, rfl⟩))
      go_ret
      exact ⟨rfl, rfl⟩
    · simp at hR
      subst hR
      have HP : Hid (∀ w, Calls Tryz.prog 121 #[.pointer (some ⟨g, 0, none⟩), .int .i64 7] w fun e w' => e = .returned (.pointer (some ⟨g, 0, none⟩)) ∧ w = w') := HP
      have c0 : w.cell? ⟨g, 0, none⟩ = some (.int .u8 r.a) := hb.cell 0
      go_enter Tryz.func77, Tryz.ntmps77
      go_wp2_with (first
        | (go_at_call 62; refine (HI.out _).mono ?_; rintro e w' ⟨rfl, rfl⟩)
        | (go_at_call 121; refine (HP.out _).mono ?_; rintro e w' ⟨rfl, rfl⟩)
        | (go_at_call 76; refine (wideHi_any _ _ wx).mono ?_; rintro e w' ⟨rfl, rfl⟩)
        | (go_at_call 70; refine (wideLo_any _ _ wx).mono ?_; rintro e w' ⟨rfl, rfl⟩))
      go_ret
      exact ⟨rfl, rfl⟩
    · rw [if_neg n0, if_neg n1, if_neg n2, if_neg n3, if_neg n4, if_neg n5, if_neg n7] at hR
      subst hR
      have HP : Hid (∀ w, Calls Tryz.prog 121 #[.pointer (some ⟨g, 0, none⟩), .int .i64 k] w fun e w' => e = .returned (.pointer none) ∧ w = w') := by
        have h := HP.out
        unfold plcP at h
        rw [if_neg n0, if_neg n1, if_neg n2, if_neg n3, if_neg n4, if_neg n5, if_neg n7] at h
        exact h
      have b4 : (k == 4) = false := by simp [n4]
      have b5 : (k == 5) = false := by simp [n5]
      go_enter Tryz.func77, Tryz.ntmps77
      go_wp2_with (first
        | (go_at_call 62; refine (HI.out _).mono ?_; rintro e w' ⟨rfl, rfl⟩)
        | (go_at_call 121; refine (HP.out _).mono ?_; rintro e w' ⟨rfl, rfl⟩)
        | (go_at_call 76; refine (wideHi_any _ _ wx).mono ?_; rintro e w' ⟨rfl, rfl⟩)
        | (go_at_call 70; refine (wideLo_any _ _ wx).mono ?_; rintro e w' ⟨rfl, rfl⟩))
      go_ret
      exact ⟨rfl, rfl⟩
  · have HI : Hid (∀ w, Calls Tryz.prog 62 #[.pointer (some ⟨g, 0, none⟩), .int .i64 2] w fun e w' => e = .returned (.pointer (some ⟨g, 20, none⟩)) ∧ w = w') := HI
    rcases kk with rfl | rfl | rfl | rfl | rfl | rfl | rfl | ⟨n0, n1, n2, n3, n4, n5, n7⟩
    · simp at hR
      subst hR
      have c0 : w.cell? ⟨g, 20, none⟩ = some (.int .u16 r.iy) := hb.cell 20
      go_enter Tryz.func77, Tryz.ntmps77
      go_wp2_with (first
        | (go_at_call 62; refine (HI.out _).mono ?_; rintro e w' ⟨rfl, rfl⟩)
        | (go_at_call 121; refine (HP.out _).mono ?_; rintro e w' ⟨rfl, rfl⟩)
        | (go_at_call 76; refine (wideHi_any _ _ wy).mono ?_; rintro e w' ⟨rfl, rfl⟩)
        | (go_at_call 70; refine (wideLo_any _ _ wy).mono ?_; rintro e w' ⟨rfl, rfl⟩))
      go_ret
      exact ⟨rfl, rfl⟩
    · simp at hR
      subst hR
      have c0 : w.cell? ⟨g, 20, none⟩ = some (.int .u16 r.iy) := hb.cell 20
      go_enter Tryz.func77, Tryz.ntmps77
      go_wp2_with (first
        | (go_at_call 62; refine (HI.out _).mono ?_; rintro e w' ⟨rfl, rfl⟩)
        | (go_at_call 121; refine (HP.out _).mono ?_; rintro e w' ⟨rfl, rfl⟩)
        | (go_at_call 76; refine (wideHi_any _ _ wy).mono ?_; rintro e w' ⟨rfl, rfl⟩)
        | (go_at_call 70; refine (wideLo_any _ _ wy).mono ?_; rintro e w' ⟨rfl, rfl⟩))
      go_ret
      exact ⟨rfl, rfl⟩
    · simp at hR
      subst hR
      have HP : Hid (∀ w, Calls Tryz.prog 121 #[.pointer (some ⟨g, 0, none⟩), .int .i64 0] w fun e w' => e = .returned (.pointer (some ⟨g, 2, none⟩)) ∧ w = w') := HP
      have c0 : w.cell? ⟨g, 2, none⟩ = some (.int .u8 r.b) := hb.cell 2
      go_enter Tryz.func77, Tryz.ntmps77
      go_wp2_with (first
        | (go_at_call 62; refine (HI.out _).mono ?_; rintro e w' ⟨rfl, rfl⟩)
        | (go_at_call 121; refine (HP.out _).mono ?_; rintro e w' ⟨rfl, rfl⟩)
        | (go_at_call 76; refine (wideHi_any _ _ wx).mono ?_; rintro e w' ⟨rfl, rfl⟩)
        | (go_at_call 70; refine (wideLo_any _ _ wx).mono ?_; rintro e w' ⟨rfl, rfl⟩))
      go_ret
      exact ⟨rfl, rfl⟩
    · simp at hR
      subst hR
      have HP : Hid (∀ w, Calls Tryz.prog 121 #[.pointer (some ⟨g, 0, none⟩), .int .i64 1] w fun e w' => e = .returned (.pointer (some ⟨g, 3, none⟩)) ∧ w = w') := HP
      have c0 : w.cell? ⟨g, 3, none⟩ = some (.int .u8 r.c) := hb.cell 3
      go_enter Tryz.func77, Tryz.ntmps77
      go_wp2_with (first
        | (go_at_call 62; refine (HI.out _).mono ?_; rintro e w' ⟨rfl, rfl⟩)
        | (go_at_call 121; refine (HP.out _).mono ?_; rintro e w' ⟨rfl, rfl⟩)
        | (go_at_call 76; refine (wideHi_any _ _ wx).mono ?_; rintro e w' ⟨rfl, rfl⟩)
        | (go_at_call 70; refine (wideLo_any _ _ wx).mono ?_; rintro e w' ⟨rfl, rfl⟩))
      go_ret
      exact ⟨rfl, rfl⟩
    · simp at hR
      subst hR
      have HP : Hid (∀ w, Calls Tryz.prog 121 #[.pointer (some ⟨g, 0, none⟩), .int .i64 2] w fun e w' => e = .returned (.pointer (some ⟨g, 4, none⟩)) ∧ w = w') := HP
      have c0 : w.cell? ⟨g, 4, none⟩ = some (.int .u8 r.d) := hb.cell 4
      go_enter Tryz.func77, Tryz.ntmps77
      go_wp2_with (first
        | (go_at_call 62; refine (HI.out _).mono ?_; rintro e w' ⟨rfl, rfl⟩)
        | (go_at_call 121; refine (HP.out _).mono ?_; rintro e w' ⟨rfl, rfl⟩)
        | (go_at_call 76; refine (wideHi_any _ _ wx).mono ?_; rintro e w' ⟨rfl, rfl⟩)
        | (go_at_call 70; refine (wideLo_any _ _ wx).mono ?_; rintro e w' ⟨rfl, rfl⟩))
      go_ret
      exact ⟨rfl, rfl⟩
    · simp at hR
      subst hR
      have HP : Hid (∀ w, Calls Tryz.prog 121 #[.pointer (some ⟨g, 0, none⟩), .int .i64 3] w fun e w' => e = .returned (.pointer (some ⟨g, 5, none⟩)) ∧ w = w') := HP
      have c0 : w.cell? ⟨g, 5, none⟩ = some (.int .u8 r.e) := hb.cell 5
      go_enter Tryz.func77, Tryz.ntmps77
      go_wp2_with (first
        | (go_at_call 62; refine (HI.out _).mono ?_; rintro e w' ⟨rfl, rfl⟩)
        | (go_at_call 121; refine (HP.out _).mono ?_; rintro e w' ⟨rfl, rfl⟩)
        | (go_at_call 76; refine (wideHi_any _ _ wx).mono ?_; rintro e w' ⟨rfl, rfl⟩)
        | (go_at_call 70; refine (wideLo_any _ _ wx).mono ?_; rintro e w' ⟨rfl, rfl⟩))
      go_ret
      exact ⟨rfl, rfl⟩
    · simp at hR
      subst hR
      have HP : Hid (∀ w, Calls Tryz.prog 121 #[.pointer (some ⟨g, 0, none⟩), .int .i64 7] w fun e w' => e = .returned (.pointer (some ⟨g, 0, none⟩)) ∧ w = w') := HP
      have c0 : w.cell? ⟨g, 0, none⟩ = some (.int .u8 r.a) := hb.cell 0
      go_enter Tryz.func77, Tryz.ntmps77
      go_wp2_with (first
        | (go_at_call 62; refine (HI.out _).mono ?_; rintro e w' ⟨rfl, rfl⟩)
        | (go_at_call 121; refine (HP.out _).mono ?_; rintro e w' ⟨rfl, rfl⟩)
        | (go_at_call 76; refine (wideHi_any _ _ wx).mono ?_; rintro e w' ⟨rfl, rfl⟩)
        | (go_at_call 70; refine (wideLo_any _ _ wx).mono ?_; rintro e w' ⟨rfl, rfl⟩))
      go_ret
      exact ⟨rfl, rfl⟩
    · rw [if_neg n0, if_neg n1, if_neg n2, if_neg n3, if_neg n4, if_neg n5, if_neg n7] at hR
      subst hR
      have HP : Hid (∀ w, Calls Tryz.prog 121 #[.pointer (some ⟨g, 0, none⟩), .int .i64 k] w fun e w' => e = .returned (.pointer none) ∧ w = w') := by
        have h := HP.out
        unfold plcP at h
        rw [if_neg n0, if_neg n1, if_neg n2, if_neg n3, if_neg n4, if_neg n5, if_neg n7] at h
        exact h
      have b4 : (k == 4) = false := by simp [n4]
      have b5 : (k == 5) = false := by simp [n5]
      go_enter Tryz.func77, Tryz.ntmps77
      go_wp2_with (first
        | (go_at_call 62; refine (HI.out _).mono ?_; rintro e w' ⟨rfl, rfl⟩)
        | (go_at_call 121; refine (HP.out _).mono ?_; rintro e w' ⟨rfl, rfl⟩)
        | (go_at_call 76; refine (wideHi_any _ _ wx).mono ?_; rintro e w' ⟨rfl, rfl⟩)
        | (go_at_call 70; refine (wideLo_any _ _ wx).mono ?_; rintro e w' ⟨rfl, rfl⟩))
      go_ret
      exact ⟨rfl, rfl⟩
  · have HI : Hid (∀ w, Calls Tryz.prog 62 #[.pointer (some ⟨g, 0, none⟩), .int .i64 ix] w fun e w' => e = .returned (.pointer (none)) ∧ w = w') := by
        have h := HI.out
        unfold idxP at h
        rw [if_neg x1, if_neg x2] at h
        exact h
    rcases kk with rfl | rfl | rfl | rfl | rfl | rfl | rfl | ⟨n0, n1, n2, n3, n4, n5, n7⟩
    · simp [x1, x2] at hR
      subst hR
      have HP : Hid (∀ w, Calls Tryz.prog 121 #[.pointer (some ⟨g, 0, none⟩), .int .i64 4] w fun e w' => e = .returned (.pointer (some ⟨g, 6, none⟩)) ∧ w = w') := HP
      have c0 : w.cell? ⟨g, 6, none⟩ = some (.int .u8 r.h) := hb.cell 6
      go_enter Tryz.func77, Tryz.ntmps77
      go_wp2_with (first
        | (go_at_call 62; refine (HI.out _).mono ?_; rintro e w' ⟨rfl, rfl⟩)
        | (go_at_call 121; refine (HP.out _).mono ?_; rintro e w' ⟨rfl, rfl⟩)
        | (go_at_call 76; refine (wideHi_any _ _ wx).mono ?_; rintro e w' ⟨rfl, rfl⟩)
        | (go_at_call 70; refine (wideLo_any _ _ wx).mono ?_; rintro e w' ⟨rfl, rfl⟩))
      go_ret
      exact ⟨rfl, rfl⟩
    · simp [x1, x2] at hR
      subst hR
      have HP : Hid (∀ w, Calls Tryz.prog 121 #[.pointer (some ⟨g, 0, none⟩), .int .i64 5] w fun e w' => e = .returned (.pointer (some ⟨g, 7, none⟩)) ∧ w = w') := HP
      have c0 : w.cell? ⟨g, 7, none⟩ = some (.int .u8 r.l) := hb.cell 7
      go_enter Tryz.func77, Tryz.ntmps77
      go_wp2_with (first
        | (go_at_call 62; refine (HI.out _).mono ?_; rintro e w' ⟨rfl, rfl⟩)
        | (go_at_call 121; refine (HP.out _).mono ?_; rintro e w' ⟨rfl, rfl⟩)
        | (go_at_call 76; refine (wideHi_any _ _ wx).mono ?_; rintro e w' ⟨rfl, rfl⟩)
        | (go_at_call 70; refine (wideLo_any _ _ wx).mono ?_; rintro e w' ⟨rfl, rfl⟩))
      go_ret
      exact ⟨rfl, rfl⟩
    · simp [x1, x2] at hR
      subst hR
      have HP : Hid (∀ w, Calls Tryz.prog 121 #[.pointer (some ⟨g, 0, none⟩), .int .i64 0] w fun e w' => e = .returned (.pointer (some ⟨g, 2, none⟩)) ∧ w = w') := HP
      have c0 : w.cell? ⟨g, 2, none⟩ = some (.int .u8 r.b) := hb.cell 2
      go_enter Tryz.func77, Tryz.ntmps77
      go_wp2_with (first
        | (go_at_call 62; refine (HI.out _).mono ?_; rintro e w' ⟨rfl, rfl⟩)
        | (go_at_call 121; refine (HP.out _).mono ?_; rintro e w' ⟨rfl, rfl⟩)
        | (go_at_call 76; refine (wideHi_any _ _ wx).mono ?_; rintro e w' ⟨rfl, rfl⟩)
        | (go_at_call 70; refine (wideLo_any _ _ wx).mono ?_; rintro e w' ⟨rfl, rfl⟩))
      go_ret
      exact ⟨rfl, rfl⟩
    · simp [x1, x2] at hR
      subst hR
      have HP : Hid (∀ w, Calls Tryz.prog 121 #[.pointer (some ⟨g, 0, none⟩), .int .i64 1] w fun e w' => e = .returned (.pointer (some ⟨g, 3, none⟩)) ∧ w = w') := HP
      have c0 : w.cell? ⟨g, 3, none⟩ = some (.int .u8 r.c) := hb.cell 3
      go_enter Tryz.func77, Tryz.ntmps77
      go_wp2_with (first
        | (go_at_call 62; refine (HI.out _).mono ?_; rintro e w' ⟨rfl, rfl⟩)
        | (go_at_call 121; refine (HP.out _).mono ?_; rintro e w' ⟨rfl, rfl⟩)
        | (go_at_call 76; refine (wideHi_any _ _ wx).mono ?_; rintro e w' ⟨rfl, rfl⟩)
        | (go_at_call 70; refine (wideLo_any _ _ wx).mono ?_; rintro e w' ⟨rfl, rfl⟩))
      go_ret
      exact ⟨rfl, rfl⟩
    · simp [x1, x2] at hR
      subst hR
      have HP : Hid (∀ w, Calls Tryz.prog 121 #[.pointer (some ⟨g, 0, none⟩), .int .i64 2] w fun e w' => e = .returned (.pointer (some ⟨g, 4, none⟩)) ∧ w = w') := HP
      have c0 : w.cell? ⟨g, 4, none⟩ = some (.int .u8 r.d) := hb.cell 4
      go_enter Tryz.func77, Tryz.ntmps77
      go_wp2_with (first
        | (go_at_call 62; refine (HI.out _).mono ?_; rintro e w' ⟨rfl, rfl⟩)
        | (go_at_call 121; refine (HP.out _).mono ?_; rintro e w' ⟨rfl, rfl⟩)
        | (go_at_call 76; refine (wideHi_any _ _ wx).mono ?_; rintro e w' ⟨rfl, rfl⟩)
        | (go_at_call 70; refine (wideLo_any _ _ wx).mono ?_; rintro e w' ⟨rfl, rfl⟩))
      go_ret
      exact ⟨rfl, rfl⟩
    · simp [x1, x2] at hR
      subst hR
      have HP : Hid (∀ w, Calls Tryz.prog 121 #[.pointer (some ⟨g, 0, none⟩), .int .i64 3] w fun e w' => e = .returned (.pointer (some ⟨g, 5, none⟩)) ∧ w = w') := HP
      have c0 : w.cell? ⟨g, 5, none⟩ = some (.int .u8 r.e) := hb.cell 5
      go_enter Tryz.func77, Tryz.ntmps77
      go_wp2_with (first
        | (go_at_call 62; refine (HI.out _).mono ?_; rintro e w' ⟨rfl, rfl⟩)
        | (go_at_call 121; refine (HP.out _).mono ?_; rintro e w' ⟨rfl, rfl⟩)
        | (go_at_call 76; refine (wideHi_any _ _ wx).mono ?_; rintro e w' ⟨rfl, rfl⟩)
        | (go_at_call 70; refine (wideLo_any _ _ wx).mono ?_; rintro e w' ⟨rfl, rfl⟩))
      go_ret
      exact ⟨rfl, rfl⟩
    · simp [x1, x2] at hR
      subst hR
      have HP : Hid (∀ w, Calls Tryz.prog 121 #[.pointer (some ⟨g, 0, none⟩), .int .i64 7] w fun e w' => e = .returned (.pointer (some ⟨g, 0, none⟩)) ∧ w = w') := HP
      have c0 : w.cell? ⟨g, 0, none⟩ = some (.int .u8 r.a) := hb.cell 0
      go_enter Tryz.func77, Tryz.ntmps77
      go_wp2_with (first
        | (go_at_call 62; refine (HI.out _).mono ?_; rintro e w' ⟨rfl, rfl⟩)
        | (go_at_call 121; refine (HP.out _).mono ?_; rintro e w' ⟨rfl, rfl⟩)
        | (go_at_call 76; refine (wideHi_any _ _ wx).mono ?_; rintro e w' ⟨rfl, rfl⟩)
        | (go_at_call 70; refine (wideLo_any _ _ wx).mono ?_; rintro e w' ⟨rfl, rfl⟩))
      go_ret
      exact ⟨rfl, rfl⟩
    · rw [if_neg n0, if_neg n1, if_neg n2, if_neg n3, if_neg n4, if_neg n5, if_neg n7] at hR
      subst hR
      have HP : Hid (∀ w, Calls Tryz.prog 121 #[.pointer (some ⟨g, 0, none⟩), .int .i64 k] w fun e w' => e = .returned (.pointer none) ∧ w = w') := by
        have h := HP.out
        unfold plcP at h
        rw [if_neg n0, if_neg n1, if_neg n2, if_neg n3, if_neg n4, if_neg n5, if_neg n7] at h
        exact h
      have b4 : (k == 4) = false := by simp [n4]
      have b5 : (k == 5) = false := by simp [n5]
      go_enter Tryz.func77, Tryz.ntmps77
      go_wp2_with (first
        | (go_at_call 62; refine (HI.out _).mono ?_; rintro e w' ⟨rfl, rfl⟩)
        | (go_at_call 121; refine (HP.out _).mono ?_; rintro e w' ⟨rfl, rfl⟩)
        | (go_at_call 76; refine (wideHi_any _ _ wx).mono ?_; rintro e w' ⟨rfl, rfl⟩)
        | (go_at_call 70; refine (wideLo_any _ _ wx).mono ?_; rintro e w' ⟨rfl, rfl⟩))
      go_ret
      exact ⟨rfl, rfl⟩
end Go.Proofs.YtbhpmnhlmeglcaaGreat
namespace Go.Proofs.YtbhpmnhlmeglcaaGreat
set_option linter.unusedSimpArgs false
set_option linter.unusedVariables false
open Go.RowKit
/-- nothing but block g has turned -/
structure Only (g : Nat) (w w' : World) : Prop where
  os : w'.os = w.os
  tape : w'.tape = w.tape
  output : w'.output = w.output
  size : w'.heap.size = w.heap.size
  block : ∀ k, k ≠ g → w'.heap[k]? = w.heap[k]?
theorem Only.refl (g : Nat) (w : World) : Only g w w := ⟨rfl, rfl, rfl, rfl, fun _ _ => rfl⟩
theorem Only.trans {g : Nat} {a b c : World} (h : Only g a b) (k : Only g b c) : Only g a c :=
  ⟨k.os.trans h.os, k.tape.trans h.tape, k.output.trans h.output, k.size.trans h.size, fun i hi => (k.block i hi).trans (h.block i hi)⟩
theorem Only.set (g i : Nat) (w : World) (v : Value) : Only g w (w.setCell ⟨g, i, none⟩ v) :=
  ⟨rfl, rfl, rfl, by simp [World.setCell], fun k hk => Below.heap_setCell w _ v k hk⟩
theorem Only.drew {g : Nat} {a w : World} (h : Only g a w) : Only g a w.drew := ⟨h.os, h.tape, h.output, h.size, h.block⟩
theorem Only.below {g B : Nat} {w w' : World} (h : Only g w w') (hB : B ≤ g) : Below B w w' := ⟨h.os, h.tape, h.output, by have := h.size; omega, fun k hk => h.block k (by omega)⟩
theorem Only.blk {g j : Nat} {w w' : World} {t : TypeId} {cs : List Value} (h : Only g w w') (hj : j ≠ g) (hb : Blk w j t cs) : Blk w' j t cs := (h.block j hj).trans hb
/-- registers with another byte at a number -/
def Rg.putByte (r : Rg) (k ix v : Int) : Rg :=
  if k = 0 then { r with b := v } else if k = 1 then { r with c := v } else if k = 2 then { r with d := v } else if k = 3 then { r with e := v } else
  if k = 4 then (if ix = 1 then { r with ix := v * 256 + r.ix % 256 } else if ix = 2 then { r with iy := v * 256 + r.iy % 256 } else { r with h := v }) else
  if k = 5 then (if ix = 1 then { r with ix := r.ix / 256 * 256 + v } else if ix = 2 then { r with iy := r.iy / 256 * 256 + v } else { r with l := v }) else if k = 7 then { r with a := v } else r
/-- the registers at g are now these, and nothing else has turned -/
def Now (g : Nat) (T : TypeId) (X : List Value) (r : Rg) (w : World) (e : Ending) (w' : World) : Prop := e = .returned (.tuple #[]) ∧ Blk w' g T (r.cells ++ X) ∧ Only g w w'
theorem b8_hi {x : Int} (h : B16 x) : B8 (x / 256) := by obtain ⟨a, b⟩ := h; exact ⟨by omega, by omega⟩
theorem b8_lo {x : Int} (h : B16 x) : B8 (x % 256) := by obtain ⟨a, b⟩ := h; exact ⟨by omega, by omega⟩
set_option maxHeartbeats 4000000 in
theorem putByte_any (r : Rg) (T : TypeId) (X : List Value) (g : Nat) (k ix v : Int) (w : World) (hb : Blk w g T (r.cells ++ X)) (hr : r.Ok) (hv : B8 v) :
    Calls Tryz.prog 78 #[.pointer (some ⟨g, 0, none⟩), .int .i64 k, .int .i64 ix, .int .u8 v] w (Now g T X (r.putByte k ix v) w) := by
  obtain ⟨R, hR⟩ : ∃ R, R = r.putByte k ix v := ⟨_, rfl⟩
  rw [← hR]
  unfold Rg.putByte at hR
  have HI := Lib.hid (fun w => index_any g ix w)
  have HP := Lib.hid (fun w => rplace_any g k w)
  have wx := hr.ix
  have wy := hr.iy
  have HV := Lib.hid hv
  have HB := Lib.hid hb
  have kx : ix = 1 ∨ ix = 2 ∨ (ix ≠ 1 ∧ ix ≠ 2) := by omega
  have kk : k = 4 ∨ k = 5 ∨ k = 0 ∨ k = 1 ∨ k = 2 ∨ k = 3 ∨ k = 7 ∨ (k ≠ 0 ∧ k ≠ 1 ∧ k ≠ 2 ∧ k ≠ 3 ∧ k ≠ 4 ∧ k ≠ 5 ∧ k ≠ 7) := by omega
  rcases kx with rfl | rfl | ⟨x1, x2⟩
  · have HI : Hid (∀ w, Calls Tryz.prog 62 #[.pointer (some ⟨g, 0, none⟩), .int .i64 1] w fun e w' => e = .returned (.pointer (some ⟨g, 19, none⟩)) ∧ w = w') := HI
    rcases kk with rfl | rfl | rfl | rfl | rfl | rfl | rfl | ⟨n0, n1, n2, n3, n4, n5, n7⟩
    · simp at hR
      subst hR
      have c0 : w.cell? ⟨g, 19, none⟩ = some (.int .u16 r.ix) := hb.cell 19
      have z0 := hb.frozen 19
      clear hb
      go_enter Tryz.func78, Tryz.ntmps78
      go_wp2_with (first
        | (go_at_call 62; refine (HI.out _).mono ?_; rintro e w' ⟨rfl, rfl⟩)
        | (go_at_call 121; refine (HP.out _).mono ?_; rintro e w' ⟨rfl, rfl⟩)
        | (go_at_call 76; refine (wideHi_any _ _ wx).mono ?_; rintro e w' ⟨rfl, rfl⟩)
        | (go_at_call 70; refine (wideLo_any _ _ wx).mono ?_; rintro e w' ⟨rfl, rfl⟩)
        | (go_at_call 38; refine (wideOf_any _ _ _ HV.out (b8_lo wx)).mono ?_; rintro e w' ⟨rfl, rfl⟩))
      go_returns
      exact ⟨rfl, HB.out.set_ 19 _, Only.set g 19 w _⟩
    · simp at hR
      subst hR
      have c0 : w.cell? ⟨g, 19, none⟩ = some (.int .u16 r.ix) := hb.cell 19
      have z0 := hb.frozen 19
      clear hb
      go_enter Tryz.func78, Tryz.ntmps78
      go_wp2_with (first
        | (go_at_call 62; refine (HI.out _).mono ?_; rintro e w' ⟨rfl, rfl⟩)
        | (go_at_call 121; refine (HP.out _).mono ?_; rintro e w' ⟨rfl, rfl⟩)
        | (go_at_call 76; refine (wideHi_any _ _ wx).mono ?_; rintro e w' ⟨rfl, rfl⟩)
        | (go_at_call 70; refine (wideLo_any _ _ wx).mono ?_; rintro e w' ⟨rfl, rfl⟩)
        | (go_at_call 38; refine (wideOf_any _ _ _ (b8_hi wx) HV.out).mono ?_; rintro e w' ⟨rfl, rfl⟩))
      go_returns
      exact ⟨rfl, HB.out.set_ 19 _, Only.set g 19 w _⟩
    · simp at hR
      subst hR
      have HP : Hid (∀ w, Calls Tryz.prog 121 #[.pointer (some ⟨g, 0, none⟩), .int .i64 0] w fun e w' => e = .returned (.pointer (some ⟨g, 2, none⟩)) ∧ w = w') := HP
      have c0 : w.cell? ⟨g, 2, none⟩ = some (.int .u8 r.b) := hb.cell 2
      have z0 := hb.frozen 2
      clear hb
      go_enter Tryz.func78, Tryz.ntmps78
      go_wp2_with (first
        | (go_at_call 62; refine (HI.out _).mono ?_; rintro e w' ⟨rfl, rfl⟩)
        | (go_at_call 121; refine (HP.out _).mono ?_; rintro e w' ⟨rfl, rfl⟩)
        | (go_at_call 76; refine (wideHi_any _ _ wx).mono ?_; rintro e w' ⟨rfl, rfl⟩)
        | (go_at_call 70; refine (wideLo_any _ _ wx).mono ?_; rintro e w' ⟨rfl, rfl⟩)
        | (go_at_call 38; refine (wideOf_any _ _ _ HV.out HV.out).mono ?_; rintro e w' ⟨rfl, rfl⟩))
      go_returns
      exact ⟨rfl, HB.out.set_ 2 _, Only.set g 2 w _⟩
    · simp at hR
      subst hR
      have HP : Hid (∀ w, Calls Tryz.prog 121 #[.pointer (some ⟨g, 0, none⟩), .int .i64 1] w fun e w' => e = .returned (.pointer (some ⟨g, 3, none⟩)) ∧ w = w') := HP
      have c0 : w.cell? ⟨g, 3, none⟩ = some (.int .u8 r.c) := hb.cell 3
      have z0 := hb.frozen 3
      clear hb
      go_enter Tryz.func78, Tryz.ntmps78
      go_wp2_with (first
        | (go_at_call 62; refine (HI.out _).mono ?_; rintro e w' ⟨rfl, rfl⟩)
        | (go_at_call 121; refine (HP.out _).mono ?_; rintro e w' ⟨rfl, rfl⟩)
        | (go_at_call 76; refine (wideHi_any _ _ wx).mono ?_; rintro e w' ⟨rfl, rfl⟩)
        | (go_at_call 70; refine (wideLo_any _ _ wx).mono ?_; rintro e w' ⟨rfl, rfl⟩)
        | (go_at_call 38; refine (wideOf_any _ _ _ HV.out HV.out).mono ?_; rintro e w' ⟨rfl, rfl⟩))
      go_returns
      exact ⟨rfl, HB.out.set_ 3 _, Only.set g 3 w _⟩
    · simp at hR
      subst hR
      have HP : Hid (∀ w, Calls Tryz.prog 121 #[.pointer (some ⟨g, 0, none⟩), .int .i64 2] w fun e w' => e = .returned (.pointer (some ⟨g, 4, none⟩)) ∧ w = w') := HP
      have c0 : w.cell? ⟨g, 4, none⟩ = some (.int .u8 r.d) := hb.cell 4
      have z0 := hb.frozen 4
      clear hb
      go_enter Tryz.func78, Tryz.ntmps78
      go_wp2_with (first
        | (go_at_call 62; refine (HI.out _).mono ?_; rintro e w' ⟨rfl, rfl⟩)
        | (go_at_call 121; refine (HP.out _).mono ?_; rintro e w' ⟨rfl, rfl⟩)
        | (go_at_call 76; refine (wideHi_any _ _ wx).mono ?_; rintro e w' ⟨rfl, rfl⟩)
        | (go_at_call 70; refine (wideLo_any _ _ wx).mono ?_; rintro e w' ⟨rfl, rfl⟩)
        | (go_at_call 38; refine (wideOf_any _ _ _ HV.out HV.out).mono ?_; rintro e w' ⟨rfl, rfl⟩))
      go_returns
      exact ⟨rfl, HB.out.set_ 4 _, Only.set g 4 w _⟩
    · simp at hR
      subst hR
      have HP : Hid (∀ w, Calls Tryz.prog 121 #[.pointer (some ⟨g, 0, none⟩), .int .i64 3] w fun e w' => e = .returned (.pointer (some ⟨g, 5, none⟩)) ∧ w = w') := HP
      have c0 : w.cell? ⟨g, 5, none⟩ = some (.int .u8 r.e) := hb.cell 5
      have z0 := hb.frozen 5
      clear hb
      go_enter Tryz.func78, Tryz.ntmps78
      go_wp2_with (first
        | (go_at_call 62; refine (HI.out _).mono ?_; rintro e w' ⟨rfl, rfl⟩)
        | (go_at_call 121; refine (HP.out _).mono ?_; rintro e w' ⟨rfl, rfl⟩)
        | (go_at_call 76; refine (wideHi_any _ _ wx).mono ?_; rintro e w' ⟨rfl, rfl⟩)
        | (go_at_call 70; refine (wideLo_any _ _ wx).mono ?_; rintro e w' ⟨rfl, rfl⟩)
        | (go_at_call 38; refine (wideOf_any _ _ _ HV.out HV.out).mono ?_; rintro e w' ⟨rfl, rfl⟩))
      go_returns
      exact ⟨rfl, HB.out.set_ 5 _, Only.set g 5 w _⟩
    · simp at hR
      subst hR
      have HP : Hid (∀ w, Calls Tryz.prog 121 #[.pointer (some ⟨g, 0, none⟩), .int .i64 7] w fun e w' => e = .returned (.pointer (some ⟨g, 0, none⟩)) ∧ w = w') := HP
      have c0 : w.cell? ⟨g, 0, none⟩ = some (.int .u8 r.a) := hb.cell 0
      have z0 := hb.frozen 0
      clear hb
      go_enter Tryz.func78, Tryz.ntmps78
      go_wp2_with (first
        | (go_at_call 62; refine (HI.out _).mono ?_; rintro e w' ⟨rfl, rfl⟩)
        | (go_at_call 121; refine (HP.out _).mono ?_; rintro e w' ⟨rfl, rfl⟩)
        | (go_at_call 76; refine (wideHi_any _ _ wx).mono ?_; rintro e w' ⟨rfl, rfl⟩)
        | (go_at_call 70; refine (wideLo_any _ _ wx).mono ?_; rintro e w' ⟨rfl, rfl⟩)
        | (go_at_call 38; refine (wideOf_any _ _ _ HV.out HV.out).mono ?_; rintro e w' ⟨rfl, rfl⟩))
      go_returns
      exact ⟨rfl, HB.out.set_ 0 _, Only.set g 0 w _⟩
    · rw [if_neg n0, if_neg n1, if_neg n2, if_neg n3, if_neg n4, if_neg n5, if_neg n7] at hR
      subst hR
      have HP : Hid (∀ w, Calls Tryz.prog 121 #[.pointer (some ⟨g, 0, none⟩), .int .i64 k] w fun e w' => e = .returned (.pointer none) ∧ w = w') := by
        have h := HP.out
        unfold plcP at h
        rw [if_neg n0, if_neg n1, if_neg n2, if_neg n3, if_neg n4, if_neg n5, if_neg n7] at h
        exact h
      have b4 : (k == 4) = false := by simp [n4]
      have b5 : (k == 5) = false := by simp [n5]
      clear hb
      go_enter Tryz.func78, Tryz.ntmps78
      go_wp2_with (first
        | (go_at_call 62; refine (HI.out _).mono ?_; rintro e w' ⟨rfl, rfl⟩)
        | (go_at_call 121; refine (HP.out _).mono ?_; rintro e w' ⟨rfl, rfl⟩)
        | (go_at_call 76; refine (wideHi_any _ _ wx).mono ?_; rintro e w' ⟨rfl, rfl⟩)
        | (go_at_call 70; refine (wideLo_any _ _ wx).mono ?_; rintro e w' ⟨rfl, rfl⟩)
        | (go_at_call 38; refine (wideOf_any _ _ _ HV.out HV.out).mono ?_; rintro e w' ⟨rfl, rfl⟩))
      go_returns
      exact ⟨rfl, HB.out, Only.refl g w⟩
  · have HI : Hid (∀ w, Calls Tryz.prog 62 #[.pointer (some ⟨g, 0, none⟩), .int .i64 2] w fun e w' => e = .returned (.pointer (some ⟨g, 20, none⟩)) ∧ w = w') := HI
    rcases kk with rfl | rfl | rfl | rfl | rfl | rfl | rfl | ⟨n0, n1, n2, n3, n4, n5, n7⟩
    · simp at hR
      subst hR
      have c0 : w.cell? ⟨g, 20, none⟩ = some (.int .u16 r.iy) := hb.cell 20
      have z0 := hb.frozen 20
      clear hb
      go_enter Tryz.func78, Tryz.ntmps78
      go_wp2_with (first
        | (go_at_call 62; refine (HI.out _).mono ?_; rintro e w' ⟨rfl, rfl⟩)
        | (go_at_call 121; refine (HP.out _).mono ?_; rintro e w' ⟨rfl, rfl⟩)
        | (go_at_call 76; refine (wideHi_any _ _ wy).mono ?_; rintro e w' ⟨rfl, rfl⟩)
        | (go_at_call 70; refine (wideLo_any _ _ wy).mono ?_; rintro e w' ⟨rfl, rfl⟩)
        | (go_at_call 38; refine (wideOf_any _ _ _ HV.out (b8_lo wy)).mono ?_; rintro e w' ⟨rfl, rfl⟩))
      go_returns
      exact ⟨rfl, HB.out.set_ 20 _, Only.set g 20 w _⟩
    · simp at hR
      subst hR
      have c0 : w.cell? ⟨g, 20, none⟩ = some (.int .u16 r.iy) := hb.cell 20
      have z0 := hb.frozen 20
      clear hb
      go_enter Tryz.func78, Tryz.ntmps78
      go_wp2_with (first
        | (go_at_call 62; refine (HI.out _).mono ?_; rintro e w' ⟨rfl, rfl⟩)
        | (go_at_call 121; refine (HP.out _).mono ?_; rintro e w' ⟨rfl, rfl⟩)
        | (go_at_call 76; refine (wideHi_any _ _ wy).mono ?_; rintro e w' ⟨rfl, rfl⟩)
        | (go_at_call 70; refine (wideLo_any _ _ wy).mono ?_; rintro e w' ⟨rfl, rfl⟩)
        | (go_at_call 38; refine (wideOf_any _ _ _ (b8_hi wy) HV.out).mono ?_; rintro e w' ⟨rfl, rfl⟩))
      go_returns
      exact ⟨rfl, HB.out.set_ 20 _, Only.set g 20 w _⟩
    · simp at hR
      subst hR
      have HP : Hid (∀ w, Calls Tryz.prog 121 #[.pointer (some ⟨g, 0, none⟩), .int .i64 0] w fun e w' => e = .returned (.pointer (some ⟨g, 2, none⟩)) ∧ w = w') := HP
      have c0 : w.cell? ⟨g, 2, none⟩ = some (.int .u8 r.b) := hb.cell 2
      have z0 := hb.frozen 2
      clear hb
      go_enter Tryz.func78, Tryz.ntmps78
      go_wp2_with (first
        | (go_at_call 62; refine (HI.out _).mono ?_; rintro e w' ⟨rfl, rfl⟩)
        | (go_at_call 121; refine (HP.out _).mono ?_; rintro e w' ⟨rfl, rfl⟩)
        | (go_at_call 76; refine (wideHi_any _ _ wx).mono ?_; rintro e w' ⟨rfl, rfl⟩)
        | (go_at_call 70; refine (wideLo_any _ _ wx).mono ?_; rintro e w' ⟨rfl, rfl⟩)
        | (go_at_call 38; refine (wideOf_any _ _ _ HV.out HV.out).mono ?_; rintro e w' ⟨rfl, rfl⟩))
      go_returns
      exact ⟨rfl, HB.out.set_ 2 _, Only.set g 2 w _⟩
    · simp at hR
      subst hR
      have HP : Hid (∀ w, Calls Tryz.prog 121 #[.pointer (some ⟨g, 0, none⟩), .int .i64 1] w fun e w' => e = .returned (.pointer (some ⟨g, 3, none⟩)) ∧ w = w') := HP
      have c0 : w.cell? ⟨g, 3, none⟩ = some (.int .u8 r.c) := hb.cell 3
      have z0 := hb.frozen 3
      clear hb
      go_enter Tryz.func78, Tryz.ntmps78
      go_wp2_with (first
        | (go_at_call 62; refine (HI.out _).mono ?_; rintro e w' ⟨rfl, rfl⟩)
        | (go_at_call 121; refine (HP.out _).mono ?_; rintro e w' ⟨rfl, rfl⟩)
        | (go_at_call 76; refine (wideHi_any _ _ wx).mono ?_; rintro e w' ⟨rfl, rfl⟩)
        | (go_at_call 70; refine (wideLo_any _ _ wx).mono ?_; rintro e w' ⟨rfl, rfl⟩)
        | (go_at_call 38; refine (wideOf_any _ _ _ HV.out HV.out).mono ?_; rintro e w' ⟨rfl, rfl⟩))
      go_returns
      exact ⟨rfl, HB.out.set_ 3 _, Only.set g 3 w _⟩
    · simp at hR
      subst hR
      have HP : Hid (∀ w, Calls Tryz.prog 121 #[.pointer (some ⟨g, 0, none⟩), .int .i64 2] w fun e w' => e = .returned (.pointer (some ⟨g, 4, none⟩)) ∧ w = w') := HP
      have c0 : w.cell? ⟨g, 4, none⟩ = some (.int .u8 r.d) := hb.cell 4
      have z0 := hb.frozen 4
      clear hb
      go_enter Tryz.func78, Tryz.ntmps78
      go_wp2_with (first
        | (go_at_call 62; refine (HI.out _).mono ?_; rintro e w' ⟨rfl, rfl⟩)
        | (go_at_call 121; refine (HP.out _).mono ?_; rintro e w' ⟨rfl, rfl⟩)
        | (go_at_call 76; refine (wideHi_any _ _ wx).mono ?_; rintro e w' ⟨rfl, rfl⟩)
        | (go_at_call 70; refine (wideLo_any _ _ wx).mono ?_; rintro e w' ⟨rfl, rfl⟩)
        | (go_at_call 38; refine (wideOf_any _ _ _ HV.out HV.out).mono ?_; rintro e w' ⟨rfl, rfl⟩))
      go_returns
      exact ⟨rfl, HB.out.set_ 4 _, Only.set g 4 w _⟩
    · simp at hR
      subst hR
      have HP : Hid (∀ w, Calls Tryz.prog 121 #[.pointer (some ⟨g, 0, none⟩), .int .i64 3] w fun e w' => e = .returned (.pointer (some ⟨g, 5, none⟩)) ∧ w = w') := HP
      have c0 : w.cell? ⟨g, 5, none⟩ = some (.int .u8 r.e) := hb.cell 5
      have z0 := hb.frozen 5
      clear hb
      go_enter Tryz.func78, Tryz.ntmps78
      go_wp2_with (first
        | (go_at_call 62; refine (HI.out _).mono ?_; rintro e w' ⟨rfl, rfl⟩)
        | (go_at_call 121; refine (HP.out _).mono ?_; rintro e w' ⟨rfl, rfl⟩)
        | (go_at_call 76; refine (wideHi_any _ _ wx).mono ?_; rintro e w' ⟨rfl, rfl⟩)
        | (go_at_call 70; refine (wideLo_any _ _ wx).mono ?_; rintro e w' ⟨rfl, rfl⟩)
        | (go_at_call 38; refine (wideOf_any _ _ _ HV.out HV.out).mono ?_; rintro e w' ⟨rfl, rfl⟩))
      go_returns
      exact ⟨rfl, HB.out.set_ 5 _, Only.set g 5 w _⟩
    · simp at hR
      subst hR
      have HP : Hid (∀ w, Calls Tryz.prog 121 #[.pointer (some ⟨g, 0, none⟩), .int .i64 7] w fun e w' => e = .returned (.pointer (some ⟨g, 0, none⟩)) ∧ w = w') := HP
      have c0 : w.cell? ⟨g, 0, none⟩ = some (.int .u8 r.a) := hb.cell 0
      have z0 := hb.frozen 0
      clear hb
      go_enter Tryz.func78, Tryz.ntmps78
      go_wp2_with (first
        | (go_at_call 62; refine (HI.out _).mono ?_; rintro e w' ⟨rfl, rfl⟩)
        | (go_at_call 121; refine (HP.out _).mono ?_; rintro e w' ⟨rfl, rfl⟩)
        | (go_at_call 76; refine (wideHi_any _ _ wx).mono ?_; rintro e w' ⟨rfl, rfl⟩)
        | (go_at_call 70; refine (wideLo_any _ _ wx).mono ?_; rintro e w' ⟨rfl, rfl⟩)
        | (go_at_call 38; refine (wideOf_any _ _ _ HV.out HV.out).mono ?_; rintro e w' ⟨rfl, rfl⟩))
      go_returns
      exact ⟨rfl, HB.out.set_ 0 _, Only.set g 0 w _⟩
    · rw [if_neg n0, if_neg n1, if_neg n2, if_neg n3, if_neg n4, if_neg n5, if_neg n7] at hR
      subst hR
      have HP : Hid (∀ w, Calls Tryz.prog 121 #[.pointer (some ⟨g, 0, none⟩), .int .i64 k] w fun e w' => e = .returned (.pointer none) ∧ w = w') := by
        have h := HP.out
        unfold plcP at h
        rw [if_neg n0, if_neg n1, if_neg n2, if_neg n3, if_neg n4, if_neg n5, if_neg n7] at h
        exact h
      have b4 : (k == 4) = false := by simp [n4]
      have b5 : (k == 5) = false := by simp [n5]
      clear hb
      go_enter Tryz.func78, Tryz.ntmps78
      go_wp2_with (first
        | (go_at_call 62; refine (HI.out _).mono ?_; rintro e w' ⟨rfl, rfl⟩)
        | (go_at_call 121; refine (HP.out _).mono ?_; rintro e w' ⟨rfl, rfl⟩)
        | (go_at_call 76; refine (wideHi_any _ _ wx).mono ?_; rintro e w' ⟨rfl, rfl⟩)
        | (go_at_call 70; refine (wideLo_any _ _ wx).mono ?_; rintro e w' ⟨rfl, rfl⟩)
        | (go_at_call 38; refine (wideOf_any _ _ _ HV.out HV.out).mono ?_; rintro e w' ⟨rfl, rfl⟩))
      go_returns
      exact ⟨rfl, HB.out, Only.refl g w⟩
  · have HI : Hid (∀ w, Calls Tryz.prog 62 #[.pointer (some ⟨g, 0, none⟩), .int .i64 ix] w fun e w' => e = .returned (.pointer (none)) ∧ w = w') := by
      have h := HI.out
      unfold idxP at h
      rw [if_neg x1, if_neg x2] at h
      exact h
    rcases kk with rfl | rfl | rfl | rfl | rfl | rfl | rfl | ⟨n0, n1, n2, n3, n4, n5, n7⟩
    · simp [x1, x2] at hR
      subst hR
      have HP : Hid (∀ w, Calls Tryz.prog 121 #[.pointer (some ⟨g, 0, none⟩), .int .i64 4] w fun e w' => e = .returned (.pointer (some ⟨g, 6, none⟩)) ∧ w = w') := HP
      have c0 : w.cell? ⟨g, 6, none⟩ = some (.int .u8 r.h) := hb.cell 6
      have z0 := hb.frozen 6
      clear hb
      go_enter Tryz.func78, Tryz.ntmps78
      go_wp2_with (first
        | (go_at_call 62; refine (HI.out _).mono ?_; rintro e w' ⟨rfl, rfl⟩)
        | (go_at_call 121; refine (HP.out _).mono ?_; rintro e w' ⟨rfl, rfl⟩)
        | (go_at_call 76; refine (wideHi_any _ _ wx).mono ?_; rintro e w' ⟨rfl, rfl⟩)
        | (go_at_call 70; refine (wideLo_any _ _ wx).mono ?_; rintro e w' ⟨rfl, rfl⟩)
        | (go_at_call 38; refine (wideOf_any _ _ _ HV.out HV.out).mono ?_; rintro e w' ⟨rfl, rfl⟩))
      go_returns
      exact ⟨rfl, HB.out.set_ 6 _, Only.set g 6 w _⟩
    · simp [x1, x2] at hR
      subst hR
      have HP : Hid (∀ w, Calls Tryz.prog 121 #[.pointer (some ⟨g, 0, none⟩), .int .i64 5] w fun e w' => e = .returned (.pointer (some ⟨g, 7, none⟩)) ∧ w = w') := HP
      have c0 : w.cell? ⟨g, 7, none⟩ = some (.int .u8 r.l) := hb.cell 7
      have z0 := hb.frozen 7
      clear hb
      go_enter Tryz.func78, Tryz.ntmps78
      go_wp2_with (first
        | (go_at_call 62; refine (HI.out _).mono ?_; rintro e w' ⟨rfl, rfl⟩)
        | (go_at_call 121; refine (HP.out _).mono ?_; rintro e w' ⟨rfl, rfl⟩)
        | (go_at_call 76; refine (wideHi_any _ _ wx).mono ?_; rintro e w' ⟨rfl, rfl⟩)
        | (go_at_call 70; refine (wideLo_any _ _ wx).mono ?_; rintro e w' ⟨rfl, rfl⟩)
        | (go_at_call 38; refine (wideOf_any _ _ _ HV.out HV.out).mono ?_; rintro e w' ⟨rfl, rfl⟩))
      go_returns
      exact ⟨rfl, HB.out.set_ 7 _, Only.set g 7 w _⟩
    · simp [x1, x2] at hR
      subst hR
      have HP : Hid (∀ w, Calls Tryz.prog 121 #[.pointer (some ⟨g, 0, none⟩), .int .i64 0] w fun e w' => e = .returned (.pointer (some ⟨g, 2, none⟩)) ∧ w = w') := HP
      have c0 : w.cell? ⟨g, 2, none⟩ = some (.int .u8 r.b) := hb.cell 2
      have z0 := hb.frozen 2
      clear hb
      go_enter Tryz.func78, Tryz.ntmps78
      go_wp2_with (first
        | (go_at_call 62; refine (HI.out _).mono ?_; rintro e w' ⟨rfl, rfl⟩)
        | (go_at_call 121; refine (HP.out _).mono ?_; rintro e w' ⟨rfl, rfl⟩)
        | (go_at_call 76; refine (wideHi_any _ _ wx).mono ?_; rintro e w' ⟨rfl, rfl⟩)
        | (go_at_call 70; refine (wideLo_any _ _ wx).mono ?_; rintro e w' ⟨rfl, rfl⟩)
        | (go_at_call 38; refine (wideOf_any _ _ _ HV.out HV.out).mono ?_; rintro e w' ⟨rfl, rfl⟩))
      go_returns
      exact ⟨rfl, HB.out.set_ 2 _, Only.set g 2 w _⟩
    · simp [x1, x2] at hR
      subst hR
      have HP : Hid (∀ w, Calls Tryz.prog 121 #[.pointer (some ⟨g, 0, none⟩), .int .i64 1] w fun e w' => e = .returned (.pointer (some ⟨g, 3, none⟩)) ∧ w = w') := HP
      have c0 : w.cell? ⟨g, 3, none⟩ = some (.int .u8 r.c) := hb.cell 3
      have z0 := hb.frozen 3
      clear hb
      go_enter Tryz.func78, Tryz.ntmps78
      go_wp2_with (first
        | (go_at_call 62; refine (HI.out _).mono ?_; rintro e w' ⟨rfl, rfl⟩)
        | (go_at_call 121; refine (HP.out _).mono ?_; rintro e w' ⟨rfl, rfl⟩)
        | (go_at_call 76; refine (wideHi_any _ _ wx).mono ?_; rintro e w' ⟨rfl, rfl⟩)
        | (go_at_call 70; refine (wideLo_any _ _ wx).mono ?_; rintro e w' ⟨rfl, rfl⟩)
        | (go_at_call 38; refine (wideOf_any _ _ _ HV.out HV.out).mono ?_; rintro e w' ⟨rfl, rfl⟩))
      go_returns
      exact ⟨rfl, HB.out.set_ 3 _, Only.set g 3 w _⟩
    · simp [x1, x2] at hR
      subst hR
      have HP : Hid (∀ w, Calls Tryz.prog 121 #[.pointer (some ⟨g, 0, none⟩), .int .i64 2] w fun e w' => e = .returned (.pointer (some ⟨g, 4, none⟩)) ∧ w = w') := HP
      have c0 : w.cell? ⟨g, 4, none⟩ = some (.int .u8 r.d) := hb.cell 4
      have z0 := hb.frozen 4
      clear hb
      go_enter Tryz.func78, Tryz.ntmps78
      go_wp2_with (first
        | (go_at_call 62; refine (HI.out _).mono ?_; rintro e w' ⟨rfl, rfl⟩)
        | (go_at_call 121; refine (HP.out _).mono ?_; rintro e w' ⟨rfl, rfl⟩)
        | (go_at_call 76; refine (wideHi_any _ _ wx).mono ?_; rintro e w' ⟨rfl, rfl⟩)
        | (go_at_call 70; refine (wideLo_any _ _ wx).mono ?_; rintro e w' ⟨rfl, rfl⟩)
        | (go_at_call 38; refine (wideOf_any _ _ _ HV.out HV.out).mono ?_; rintro e w' ⟨rfl, rfl⟩))
      go_returns
      exact ⟨rfl, HB.out.set_ 4 _, Only.set g 4 w _⟩
    · simp [x1, x2] at hR
      subst hR
      have HP : Hid (∀ w, Calls Tryz.prog 121 #[.pointer (some ⟨g, 0, none⟩), .int .i64 3] w fun e w' => e = .returned (.pointer (some ⟨g, 5, none⟩)) ∧ w = w') := HP
      have c0 : w.cell? ⟨g, 5, none⟩ = some (.int .u8 r.e) := hb.cell 5
      have z0 := hb.frozen 5
      clear hb
      go_enter Tryz.func78, Tryz.ntmps78
      go_wp2_with (first
        | (go_at_call 62; refine (HI.out _).mono ?_; rintro e w' ⟨rfl, rfl⟩)
        | (go_at_call 121; refine (HP.out _).mono ?_; rintro e w' ⟨rfl, rfl⟩)
        | (go_at_call 76; refine (wideHi_any _ _ wx).mono ?_; rintro e w' ⟨rfl, rfl⟩)
        | (go_at_call 70; refine (wideLo_any _ _ wx).mono ?_; rintro e w' ⟨rfl, rfl⟩)
        | (go_at_call 38; refine (wideOf_any _ _ _ HV.out HV.out).mono ?_; rintro e w' ⟨rfl, rfl⟩))
      go_returns
      exact ⟨rfl, HB.out.set_ 5 _, Only.set g 5 w _⟩
    · simp [x1, x2] at hR
      subst hR
      have HP : Hid (∀ w, Calls Tryz.prog 121 #[.pointer (some ⟨g, 0, none⟩), .int .i64 7] w fun e w' => e = .returned (.pointer (some ⟨g, 0, none⟩)) ∧ w = w') := HP
      have c0 : w.cell? ⟨g, 0, none⟩ = some (.int .u8 r.a) := hb.cell 0
      have z0 := hb.frozen 0
      clear hb
      go_enter Tryz.func78, Tryz.ntmps78
      go_wp2_with (first
        | (go_at_call 62; refine (HI.out _).mono ?_; rintro e w' ⟨rfl, rfl⟩)
        | (go_at_call 121; refine (HP.out _).mono ?_; rintro e w' ⟨rfl, rfl⟩)
        | (go_at_call 76; refine (wideHi_any _ _ wx).mono ?_; rintro e w' ⟨rfl, rfl⟩)
        | (go_at_call 70; refine (wideLo_any _ _ wx).mono ?_; rintro e w' ⟨rfl, rfl⟩)
        | (go_at_call 38; refine (wideOf_any _ _ _ HV.out HV.out).mono ?_; rintro e w' ⟨rfl, rfl⟩))
      go_returns
      exact ⟨rfl, HB.out.set_ 0 _, Only.set g 0 w _⟩
    · rw [if_neg n0, if_neg n1, if_neg n2, if_neg n3, if_neg n4, if_neg n5, if_neg n7] at hR
      subst hR
      have HP : Hid (∀ w, Calls Tryz.prog 121 #[.pointer (some ⟨g, 0, none⟩), .int .i64 k] w fun e w' => e = .returned (.pointer none) ∧ w = w') := by
        have h := HP.out
        unfold plcP at h
        rw [if_neg n0, if_neg n1, if_neg n2, if_neg n3, if_neg n4, if_neg n5, if_neg n7] at h
        exact h
      have b4 : (k == 4) = false := by simp [n4]
      have b5 : (k == 5) = false := by simp [n5]
      clear hb
      go_enter Tryz.func78, Tryz.ntmps78
      go_wp2_with (first
        | (go_at_call 62; refine (HI.out _).mono ?_; rintro e w' ⟨rfl, rfl⟩)
        | (go_at_call 121; refine (HP.out _).mono ?_; rintro e w' ⟨rfl, rfl⟩)
        | (go_at_call 76; refine (wideHi_any _ _ wx).mono ?_; rintro e w' ⟨rfl, rfl⟩)
        | (go_at_call 70; refine (wideLo_any _ _ wx).mono ?_; rintro e w' ⟨rfl, rfl⟩)
        | (go_at_call 38; refine (wideOf_any _ _ _ HV.out HV.out).mono ?_; rintro e w' ⟨rfl, rfl⟩))
      go_returns
      exact ⟨rfl, HB.out, Only.refl g w⟩
end Go.Proofs.YtbhpmnhlmeglcaaGreat
namespace Go.Proofs.YtbhpmnhlmeglcaaGreat
set_option linter.unusedSimpArgs false
set_option linter.unusedVariables false
open Go.RowKit
theorem Now.mk' {g : Nat} {T : TypeId} {X : List Value} {r : Rg} {w w' : World} (h : Blk w' g T (r.cells ++ X)) (ho : Only g w w') : Now g T X r w (.returned (.tuple #[])) w' := ⟨rfl, h, ho⟩
set_option maxHeartbeats 1000000 in
theorem putAf_any (r : Rg) (T : TypeId) (X : List Value) (g : Nat) (v : Int) (w : World) (hb : Blk w g T (r.cells ++ X)) (hv : B16 v) :
    Calls Tryz.prog 110 #[.pointer (some ⟨g, 0, none⟩), .int .u16 v] w (Now g T X { r with a := v / 256, f := v % 256 } w) := by
  have HB := Lib.hid hb
  have c0 : w.cell? ⟨g, 0, none⟩ = some (.int .u8 r.a) := hb.cell 0
  have c1 : w.cell? ⟨g, 1, none⟩ = some (.int .u8 r.f) := hb.cell 1
  have z0 := hb.frozen 0
  have z1 := hb.frozen 1
  clear hb
  go_enter Tryz.func110, Tryz.ntmps110
  go_wp2_with (first
    | (go_at_call 76; refine (wideHi_any _ _ hv).mono ?_; rintro e w' ⟨rfl, rfl⟩)
    | (go_at_call 70; refine (wideLo_any _ _ hv).mono ?_; rintro e w' ⟨rfl, rfl⟩))
  go_returns
  exact ⟨rfl, (HB.out.set_ 0 _).set_ 1 _, (Only.set g 0 w _).trans (Only.set g 1 _ _)⟩
set_option maxRecDepth 100000 in
set_option maxHeartbeats 4000000 in
theorem exAf_any (r : Rg) (T : TypeId) (X : List Value) (g : Nat) (w : World) (hb : Blk w g T (r.cells ++ X)) :
    Calls Tryz.prog 63 #[.pointer (some ⟨g, 0, none⟩)] w (Now g T X { r with a := r.a2, a2 := r.a, f := r.f2, f2 := r.f } w) := by
  have HB := Lib.hid hb
  have c0 : w.cell? ⟨g, 0, none⟩ = some (.int .u8 r.a) := hb.cell 0
  have z0 := hb.frozen 0
  have c8 : w.cell? ⟨g, 8, none⟩ = some (.int .u8 r.a2) := hb.cell 8
  have z8 := hb.frozen 8
  have c1 : w.cell? ⟨g, 1, none⟩ = some (.int .u8 r.f) := hb.cell 1
  have z1 := hb.frozen 1
  have c9 : w.cell? ⟨g, 9, none⟩ = some (.int .u8 r.f2) := hb.cell 9
  have z9 := hb.frozen 9
  clear hb
  obtain ⟨R, hR⟩ : ∃ R : Rg, R = { r with a := r.a2, a2 := r.a, f := r.f2, f2 := r.f } := ⟨_, rfl⟩
  have hR' := Lib.hid hR
  rw [← hR]
  clear hR
  go_enter Tryz.func63, Tryz.ntmps63
  go_wp2_with fail
  go_region
  go_returns
  rw [hR'.out]
  exact Now.mk' (((((HB.out.set_ 0 _).set_ 8 _).set_ 1 _).set_ 9 _).drew) (((((((((Only.refl g w).trans (Only.set g 0 _ _))).trans (Only.set g 8 _ _))).trans (Only.set g 1 _ _))).trans (Only.set g 9 _ _)).drew)
set_option maxRecDepth 100000 in
set_option maxHeartbeats 4000000 in
theorem exDe_any (r : Rg) (T : TypeId) (X : List Value) (g : Nat) (w : World) (hb : Blk w g T (r.cells ++ X)) :
    Calls Tryz.prog 74 #[.pointer (some ⟨g, 0, none⟩)] w (Now g T X { r with d := r.h, h := r.d, e := r.l, l := r.e } w) := by
  have HB := Lib.hid hb
  have c4 : w.cell? ⟨g, 4, none⟩ = some (.int .u8 r.d) := hb.cell 4
  have z4 := hb.frozen 4
  have c6 : w.cell? ⟨g, 6, none⟩ = some (.int .u8 r.h) := hb.cell 6
  have z6 := hb.frozen 6
  have c5 : w.cell? ⟨g, 5, none⟩ = some (.int .u8 r.e) := hb.cell 5
  have z5 := hb.frozen 5
  have c7 : w.cell? ⟨g, 7, none⟩ = some (.int .u8 r.l) := hb.cell 7
  have z7 := hb.frozen 7
  clear hb
  obtain ⟨R, hR⟩ : ∃ R : Rg, R = { r with d := r.h, h := r.d, e := r.l, l := r.e } := ⟨_, rfl⟩
  have hR' := Lib.hid hR
  rw [← hR]
  clear hR
  go_enter Tryz.func74, Tryz.ntmps74
  go_wp2_with fail
  go_region
  go_returns
  rw [hR'.out]
  exact Now.mk' (((((HB.out.set_ 4 _).set_ 6 _).set_ 5 _).set_ 7 _).drew) (((((((((Only.refl g w).trans (Only.set g 4 _ _))).trans (Only.set g 6 _ _))).trans (Only.set g 5 _ _))).trans (Only.set g 7 _ _)).drew)
end Go.Proofs.YtbhpmnhlmeglcaaGreat
namespace Go.Proofs.YtbhpmnhlmeglcaaGreat
set_option linter.unusedSimpArgs false
set_option linter.unusedVariables false
open Go.RowKit
theorem tick_bits : ∀ n < 256, bits .or .u8 (bits .and .u8 (n : Nat) 128) (bits .and .u8 (IntKind.u8.wrap ((n : Nat) + 1)) 127) = ((n / 128 * 128 + (n + 1) % 128 : Nat) : Int) := by decide +kernel
theorem tick_u8 (x : Int) (h : B8 x) : bits .or .u8 (bits .and .u8 x 128) (bits .and .u8 ((x + 1) % 256) 127) = x / 128 * 128 + (x + 1) % 128 := by
  obtain ⟨h0, h1⟩ := h
  obtain ⟨n, rfl⟩ := Int.eq_ofNat_of_zero_le h0
  have h := tick_bits n (by omega)
  rw [IntKind.wrap_u8] at h
  rw [h]
  omega
set_option maxRecDepth 100000 in
set_option maxHeartbeats 4000000 in
theorem tick_any (r : Rg) (T : TypeId) (X : List Value) (g : Nat) (w : World) (hb : Blk w g T (r.cells ++ X)) (hr : B8 r.r) :
    Calls Tryz.prog 37 #[.pointer (some ⟨g, 0, none⟩)] w (Now g T X { r with r := r.r / 128 * 128 + (r.r + 1) % 128 } w) := by
  have HB := Lib.hid hb
  have c17 : w.cell? ⟨g, 17, none⟩ = some (.int .u8 r.r) := hb.cell 17
  have z17 := hb.frozen 17
  clear hb
  have ht := tick_u8 r.r hr
  go_enter Tryz.func37, Tryz.ntmps37
  go_wp2_with fail
  go_region
  go_returns
  exact Now.mk' ((HB.out.set_ 17 _).drew) ((Only.set g 17 w _).drew)
set_option maxRecDepth 100000 in
set_option maxHeartbeats 4000000 in
theorem exx_any (r : Rg) (T : TypeId) (X : List Value) (g : Nat) (w : World) (hb : Blk w g T (r.cells ++ X)) :
    Calls Tryz.prog 72 #[.pointer (some ⟨g, 0, none⟩)] w (Now g T X { r with b := r.b2, b2 := r.b, c := r.c2, c2 := r.c, d := r.d2, d2 := r.d, e := r.e2, e2 := r.e, h := r.h2, h2 := r.h, l := r.l2, l2 := r.l } w) := by
  have HB := Lib.hid hb
  have c2 : w.cell? ⟨g, 2, none⟩ = some (.int .u8 r.b) := hb.cell 2
  have z2 := hb.frozen 2
  have c10 : w.cell? ⟨g, 10, none⟩ = some (.int .u8 r.b2) := hb.cell 10
  have z10 := hb.frozen 10
  have c3 : w.cell? ⟨g, 3, none⟩ = some (.int .u8 r.c) := hb.cell 3
  have z3 := hb.frozen 3
  have c11 : w.cell? ⟨g, 11, none⟩ = some (.int .u8 r.c2) := hb.cell 11
  have z11 := hb.frozen 11
  clear hb
  obtain ⟨R, hR⟩ : ∃ R : Rg, R = { r with b := r.b2, b2 := r.b, c := r.c2, c2 := r.c, d := r.d2, d2 := r.d, e := r.e2, e2 := r.e, h := r.h2, h2 := r.h, l := r.l2, l2 := r.l } := ⟨_, rfl⟩
  have hR' := Lib.hid hR
  rw [← hR]
  clear hR
  have HO := Only.refl g w
  go_enter Tryz.func72, Tryz.ntmps72
  go_wp2_with fail
  go_region
  have hb : Blk (((((w.setCell ⟨g, 2, none⟩ (.int .u8 r.b2)).setCell ⟨g, 10, none⟩ (.int .u8 r.b)).setCell ⟨g, 3, none⟩ (.int .u8 r.c2)).setCell ⟨g, 11, none⟩ (.int .u8 r.c)).drew) g T ({ r with b := r.b2, b2 := r.b, c := r.c2, c2 := r.c }.cells ++ X) := ((((HB.out.set_ 2 _).set_ 10 _).set_ 3 _).set_ 11 _).drew
  have ho : Only g w (((((w.setCell ⟨g, 2, none⟩ (.int .u8 r.b2)).setCell ⟨g, 10, none⟩ (.int .u8 r.b)).setCell ⟨g, 3, none⟩ (.int .u8 r.c2)).setCell ⟨g, 11, none⟩ (.int .u8 r.c)).drew) := ((((HO.trans (Only.set g 2 _ _)).trans (Only.set g 10 _ _)).trans (Only.set g 3 _ _)).trans (Only.set g 11 _ _)).drew
  generalize ((((w.setCell ⟨g, 2, none⟩ (.int .u8 r.b2)).setCell ⟨g, 10, none⟩ (.int .u8 r.b)).setCell ⟨g, 3, none⟩ (.int .u8 r.c2)).setCell ⟨g, 11, none⟩ (.int .u8 r.c)).drew = v0 at hb ho ⊢
  clear HB HO c2 z2 c10 z10 c3 z3 c11 z11
  have HB := Lib.hid hb
  have HO := ho
  have c4 : v0.cell? ⟨g, 4, none⟩ = some (.int .u8 r.d) := hb.cell 4
  have z4 := hb.frozen 4
  have c12 : v0.cell? ⟨g, 12, none⟩ = some (.int .u8 r.d2) := hb.cell 12
  have z12 := hb.frozen 12
  have c5 : v0.cell? ⟨g, 5, none⟩ = some (.int .u8 r.e) := hb.cell 5
  have z5 := hb.frozen 5
  have c13 : v0.cell? ⟨g, 13, none⟩ = some (.int .u8 r.e2) := hb.cell 13
  have z13 := hb.frozen 13
  clear hb ho
  go_wp2_with fail
  go_region
  have hb : Blk (((((v0.setCell ⟨g, 4, none⟩ (.int .u8 r.d2)).setCell ⟨g, 12, none⟩ (.int .u8 r.d)).setCell ⟨g, 5, none⟩ (.int .u8 r.e2)).setCell ⟨g, 13, none⟩ (.int .u8 r.e)).drew) g T ({ r with b := r.b2, b2 := r.b, c := r.c2, c2 := r.c, d := r.d2, d2 := r.d, e := r.e2, e2 := r.e }.cells ++ X) := ((((HB.out.set_ 4 _).set_ 12 _).set_ 5 _).set_ 13 _).drew
  have ho : Only g w (((((v0.setCell ⟨g, 4, none⟩ (.int .u8 r.d2)).setCell ⟨g, 12, none⟩ (.int .u8 r.d)).setCell ⟨g, 5, none⟩ (.int .u8 r.e2)).setCell ⟨g, 13, none⟩ (.int .u8 r.e)).drew) := ((((HO.trans (Only.set g 4 _ _)).trans (Only.set g 12 _ _)).trans (Only.set g 5 _ _)).trans (Only.set g 13 _ _)).drew
  generalize ((((v0.setCell ⟨g, 4, none⟩ (.int .u8 r.d2)).setCell ⟨g, 12, none⟩ (.int .u8 r.d)).setCell ⟨g, 5, none⟩ (.int .u8 r.e2)).setCell ⟨g, 13, none⟩ (.int .u8 r.e)).drew = v1 at hb ho ⊢
  clear HB HO c4 z4 c12 z12 c5 z5 c13 z13
  have HB := Lib.hid hb
  have HO := ho
  have c6 : v1.cell? ⟨g, 6, none⟩ = some (.int .u8 r.h) := hb.cell 6
  have z6 := hb.frozen 6
  have c14 : v1.cell? ⟨g, 14, none⟩ = some (.int .u8 r.h2) := hb.cell 14
  have z14 := hb.frozen 14
  have c7 : v1.cell? ⟨g, 7, none⟩ = some (.int .u8 r.l) := hb.cell 7
  have z7 := hb.frozen 7
  have c15 : v1.cell? ⟨g, 15, none⟩ = some (.int .u8 r.l2) := hb.cell 15
  have z15 := hb.frozen 15
  clear hb ho
  go_wp2_with fail
  go_region
  have hb : Blk (((((v1.setCell ⟨g, 6, none⟩ (.int .u8 r.h2)).setCell ⟨g, 14, none⟩ (.int .u8 r.h)).setCell ⟨g, 7, none⟩ (.int .u8 r.l2)).setCell ⟨g, 15, none⟩ (.int .u8 r.l)).drew) g T ({ r with b := r.b2, b2 := r.b, c := r.c2, c2 := r.c, d := r.d2, d2 := r.d, e := r.e2, e2 := r.e, h := r.h2, h2 := r.h, l := r.l2, l2 := r.l }.cells ++ X) := ((((HB.out.set_ 6 _).set_ 14 _).set_ 7 _).set_ 15 _).drew
  have ho : Only g w (((((v1.setCell ⟨g, 6, none⟩ (.int .u8 r.h2)).setCell ⟨g, 14, none⟩ (.int .u8 r.h)).setCell ⟨g, 7, none⟩ (.int .u8 r.l2)).setCell ⟨g, 15, none⟩ (.int .u8 r.l)).drew) := ((((HO.trans (Only.set g 6 _ _)).trans (Only.set g 14 _ _)).trans (Only.set g 7 _ _)).trans (Only.set g 15 _ _)).drew
  go_returns
  rw [hR'.out]
  exact Now.mk' hb ho
end Go.Proofs.YtbhpmnhlmeglcaaGreat
namespace Go.Proofs.YtbhpmnhlmeglcaaGreat
set_option linter.unusedSimpArgs false
set_option linter.unusedVariables false
open Go.RowKit
/-- registers with another pair at a number -/
def Rg.putPair (r : Rg) (k ix v : Int) : Rg :=
  if k = 0 then { r with b := v / 256, c := v % 256 } else if k = 1 then { r with d := v / 256, e := v % 256 } else
  if k = 2 then (if ix = 1 then { r with ix := v } else if ix = 2 then { r with iy := v } else { r with h := v / 256, l := v % 256 }) else if k = 3 then { r with sp := v } else r
set_option maxHeartbeats 1000000 in
theorem pp0 (r : Rg) (T : TypeId) (X : List Value) (g : Nat) (ix : Int) (v : Int) (w : World) (hb : Blk w g T (r.cells ++ X)) (hv : B16 v) :
    Calls Tryz.prog 65 #[.pointer (some ⟨g, 0, none⟩), .int .i64 0, .int .i64 ix, .int .u16 v] w (Now g T X { r with b := v / 256, c := v % 256 } w) := by
  have HB := Lib.hid hb
  have c2 : w.cell? ⟨g, 2, none⟩ = some (.int .u8 r.b) := hb.cell 2
  have z2 := hb.frozen 2
  have c3 : w.cell? ⟨g, 3, none⟩ = some (.int .u8 r.c) := hb.cell 3
  have z3 := hb.frozen 3
  clear hb
  go_enter Tryz.func65, Tryz.ntmps65
  go_wp2_with (first
    | (go_at_call 76; refine (wideHi_any _ _ hv).mono ?_; rintro e w' ⟨rfl, rfl⟩)
    | (go_at_call 70; refine (wideLo_any _ _ hv).mono ?_; rintro e w' ⟨rfl, rfl⟩))
  go_returns
  exact ⟨rfl, (HB.out.set_ 2 _).set_ 3 _, (Only.set g 2 w _).trans (Only.set g 3 _ _)⟩
set_option maxHeartbeats 1000000 in
theorem pp1 (r : Rg) (T : TypeId) (X : List Value) (g : Nat) (ix : Int) (v : Int) (w : World) (hb : Blk w g T (r.cells ++ X)) (hv : B16 v) :
    Calls Tryz.prog 65 #[.pointer (some ⟨g, 0, none⟩), .int .i64 1, .int .i64 ix, .int .u16 v] w (Now g T X { r with d := v / 256, e := v % 256 } w) := by
  have HB := Lib.hid hb
  have c4 : w.cell? ⟨g, 4, none⟩ = some (.int .u8 r.d) := hb.cell 4
  have z4 := hb.frozen 4
  have c5 : w.cell? ⟨g, 5, none⟩ = some (.int .u8 r.e) := hb.cell 5
  have z5 := hb.frozen 5
  clear hb
  go_enter Tryz.func65, Tryz.ntmps65
  go_wp2_with (first
    | (go_at_call 76; refine (wideHi_any _ _ hv).mono ?_; rintro e w' ⟨rfl, rfl⟩)
    | (go_at_call 70; refine (wideLo_any _ _ hv).mono ?_; rintro e w' ⟨rfl, rfl⟩))
  go_returns
  exact ⟨rfl, (HB.out.set_ 4 _).set_ 5 _, (Only.set g 4 w _).trans (Only.set g 5 _ _)⟩
set_option maxHeartbeats 1000000 in
theorem pp2 (r : Rg) (T : TypeId) (X : List Value) (g : Nat) (ix : Int) (v : Int) (w : World) (hb : Blk w g T (r.cells ++ X)) (hv : B16 v) (x1 : ix ≠ 1) (x2 : ix ≠ 2) :
    Calls Tryz.prog 65 #[.pointer (some ⟨g, 0, none⟩), .int .i64 2, .int .i64 ix, .int .u16 v] w (Now g T X { r with h := v / 256, l := v % 256 } w) := by
  have HB := Lib.hid hb
  have c6 : w.cell? ⟨g, 6, none⟩ = some (.int .u8 r.h) := hb.cell 6
  have z6 := hb.frozen 6
  have c7 : w.cell? ⟨g, 7, none⟩ = some (.int .u8 r.l) := hb.cell 7
  have z7 := hb.frozen 7
  clear hb
  have HI : Hid (∀ w, Calls Tryz.prog 62 #[.pointer (some ⟨g, 0, none⟩), .int .i64 ix] w fun e w' => e = .returned (.pointer (none)) ∧ w = w') := by
    have h := fun w => index_any g ix w
    unfold idxP at h
    rw [if_neg x1, if_neg x2] at h
    exact h
  go_enter Tryz.func65, Tryz.ntmps65
  go_wp2_with (first
    | (go_at_call 76; refine (wideHi_any _ _ hv).mono ?_; rintro e w' ⟨rfl, rfl⟩)
    | (go_at_call 70; refine (wideLo_any _ _ hv).mono ?_; rintro e w' ⟨rfl, rfl⟩)
    | (go_at_call 62; refine (HI.out _).mono ?_; rintro e w' ⟨rfl, rfl⟩))
  go_returns
  exact ⟨rfl, (HB.out.set_ 6 _).set_ 7 _, (Only.set g 6 w _).trans (Only.set g 7 _ _)⟩
set_option maxHeartbeats 1000000 in
theorem ppx (r : Rg) (T : TypeId) (X : List Value) (g : Nat) (v : Int) (w : World) (hb : Blk w g T (r.cells ++ X)) :
    Calls Tryz.prog 65 #[.pointer (some ⟨g, 0, none⟩), .int .i64 2, .int .i64 1, .int .u16 v] w (Now g T X { r with ix := v } w) := by
  have HB := Lib.hid hb
  have c : w.cell? ⟨g, 19, none⟩ = some (.int .u16 r.ix) := hb.cell 19
  have z := hb.frozen 19
  clear hb
  have HI : Hid (∀ w, Calls Tryz.prog 62 #[.pointer (some ⟨g, 0, none⟩), .int .i64 1] w fun e w' => e = .returned (.pointer (some ⟨g, 19, none⟩)) ∧ w = w') := fun w => index_any g 1 w
  go_enter Tryz.func65, Tryz.ntmps65
  go_wp2_with (first | (go_at_call 62; refine (HI.out _).mono ?_; rintro e w' ⟨rfl, rfl⟩))
  go_returns
  exact ⟨rfl, HB.out.set_ 19 _, Only.set g 19 w _⟩
set_option maxHeartbeats 1000000 in
theorem ppy (r : Rg) (T : TypeId) (X : List Value) (g : Nat) (v : Int) (w : World) (hb : Blk w g T (r.cells ++ X)) :
    Calls Tryz.prog 65 #[.pointer (some ⟨g, 0, none⟩), .int .i64 2, .int .i64 2, .int .u16 v] w (Now g T X { r with iy := v } w) := by
  have HB := Lib.hid hb
  have c : w.cell? ⟨g, 20, none⟩ = some (.int .u16 r.iy) := hb.cell 20
  have z := hb.frozen 20
  clear hb
  have HI : Hid (∀ w, Calls Tryz.prog 62 #[.pointer (some ⟨g, 0, none⟩), .int .i64 2] w fun e w' => e = .returned (.pointer (some ⟨g, 20, none⟩)) ∧ w = w') := fun w => index_any g 2 w
  go_enter Tryz.func65, Tryz.ntmps65
  go_wp2_with (first | (go_at_call 62; refine (HI.out _).mono ?_; rintro e w' ⟨rfl, rfl⟩))
  go_returns
  exact ⟨rfl, HB.out.set_ 20 _, Only.set g 20 w _⟩
set_option maxHeartbeats 1000000 in
theorem pp3 (r : Rg) (T : TypeId) (X : List Value) (g : Nat) (ix : Int) (v : Int) (w : World) (hb : Blk w g T (r.cells ++ X)) :
    Calls Tryz.prog 65 #[.pointer (some ⟨g, 0, none⟩), .int .i64 3, .int .i64 ix, .int .u16 v] w (Now g T X { r with sp := v } w) := by
  have HB := Lib.hid hb
  have c : w.cell? ⟨g, 21, none⟩ = some (.int .u16 r.sp) := hb.cell 21
  have z := hb.frozen 21
  clear hb
  go_enter Tryz.func65, Tryz.ntmps65
  go_wp2_with fail
  go_returns
  exact ⟨rfl, HB.out.set_ 21 _, Only.set g 21 w _⟩
set_option maxHeartbeats 1000000 in
theorem ppn (r : Rg) (T : TypeId) (X : List Value) (g : Nat) (k ix v : Int) (w : World) (hb : Blk w g T (r.cells ++ X)) (h : k ≠ 0 ∧ k ≠ 1 ∧ k ≠ 2 ∧ k ≠ 3) :
    Calls Tryz.prog 65 #[.pointer (some ⟨g, 0, none⟩), .int .i64 k, .int .i64 ix, .int .u16 v] w (Now g T X r w) := by
  obtain ⟨n0, n1, n2, n3⟩ := h
  have b0 : (k == 0) = false := by simp [n0]
  have b1 : (k == 1) = false := by simp [n1]
  have b2 : (k == 2) = false := by simp [n2]
  have b3 : (k == 3) = false := by simp [n3]
  have HB := Lib.hid hb
  clear hb n0 n1 n2 n3
  go_enter Tryz.func65, Tryz.ntmps65
  go_wp2_with fail
  go_returns
  exact ⟨rfl, HB.out, Only.refl _ _⟩
theorem putPair_any (r : Rg) (T : TypeId) (X : List Value) (g : Nat) (k ix v : Int) (w : World) (hb : Blk w g T (r.cells ++ X)) (hv : B16 v) :
    Calls Tryz.prog 65 #[.pointer (some ⟨g, 0, none⟩), .int .i64 k, .int .i64 ix, .int .u16 v] w (Now g T X (r.putPair k ix v) w) := by
  have kk : k = 0 ∨ k = 1 ∨ k = 2 ∨ k = 3 ∨ (k ≠ 0 ∧ k ≠ 1 ∧ k ≠ 2 ∧ k ≠ 3) := by omega
  rcases kk with rfl | rfl | rfl | rfl | h
  · exact pp0 r T X g ix v w hb hv
  · exact pp1 r T X g ix v w hb hv
  · have kx : ix = 1 ∨ ix = 2 ∨ (ix ≠ 1 ∧ ix ≠ 2) := by omega
    rcases kx with rfl | rfl | ⟨n1, n2⟩
    · exact ppx r T X g v w hb
    · exact ppy r T X g v w hb
    · have e : r.putPair 2 ix v = { r with h := v / 256, l := v % 256 } := by simp [Rg.putPair, n1, n2]
      rw [e]
      exact pp2 r T X g ix v w hb hv n1 n2
  · exact pp3 r T X g ix v w hb
  · have e : r.putPair k ix v = r := by simp [Rg.putPair, h]
    rw [e]
    exact ppn r T X g k ix v w hb h
end Go.Proofs.YtbhpmnhlmeglcaaGreat
