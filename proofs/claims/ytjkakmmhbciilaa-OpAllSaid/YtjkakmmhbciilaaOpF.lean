/- Package op: operand, tail. -/
import Derived.Test.YtjkakmmhbciilaaOpB
import Derived.Deep.RegionWith
namespace Go.Proofs.Ytjkakmmhbciilaa
set_option linter.unusedSimpArgs false
set_option linter.unusedVariables false
open Go.RowKit
def B8 (x : Int) : Prop := 0 ≤ x ∧ x ≤ 255
def B16 (x : Int) : Prop := 0 ≤ x ∧ x ≤ 65535
/-- an instruction -/
structure In where
  (set ix c d n len : Int)
def In.v (i : In) : Value := .agg #[.int .i64 i.set, .int .i64 i.ix, .int .u8 i.c, .int .u8 i.d, .int .u16 i.n, .int .i64 i.len]
def In.z : In := ⟨0, 0, 0, 0, 0, 0⟩
def opnd (b : List Int) (k args : Nat) : Int := if args = 0 then 0 else if args = 1 then b.getD k 0 else b.getD k 0 + 256 * b.getD (k + 1) 0
def tail2 (b : List Int) (i : In) (k args : Nat) : In × Bool := if b.length < k + args then (In.z, false) else ({ i with n := opnd b k args, len := ((k + args : Nat) : Int) }, true)
def tailS (b : List Int) (i : In) (k args : Nat) : In × Bool :=
  if i.set = 0 ∧ 0 < i.ix ∧ Mi.memS i.c = true then (if b.length ≤ k then (In.z, false) else tail2 b { i with d := b.getD k 0 } (k + 1) args) else tail2 b i k args
/-- an instruction is handed back, and whether there is one -/
def Reads (r : In × Bool) (w : World) (e : Ending) (w' : World) : Prop := e = .returned (.tuple #[r.1.v, .bool r.2]) ∧ Below w.heap.size w w'
theorem or_shift8 (a b : Nat) (hb : b < 256) : a * 256 ||| b = a * 256 + b := by
  have h := Nat.shiftLeft_add_eq_or_of_lt (i := 8) hb a
  rw [Nat.shiftLeft_eq] at h
  exact h.symm
theorem u16_or_nat (a b : Nat) (ha : a < 65536) (hb : b < 65536) : bits .or .u16 (a : Int) (b : Int) = ((a ||| b : Nat) : Int) := by
  have h1 : (BitVec.ofInt 16 (a : Int)).toNat = a := by simp [BitVec.toNat_ofInt]; omega
  have h2 : (BitVec.ofInt 16 (b : Int)).toNat = b := by simp [BitVec.toNat_ofInt]; omega
  show IntKind.u16.wrap (((BitVec.ofInt 16 (a : Int) ||| BitVec.ofInt 16 (b : Int)).toNat : Nat) : Int) = _
  have h3 : a ||| b < 2 ^ 16 := Nat.or_lt_two_pow ha hb
  rw [BitVec.toNat_or, h1, h2, IntKind.wrap_u16]
  omega
theorem u16_or_hi (a b : Int) (ha : B8 a) (hb : B8 b) : bits .or .u16 a (b * 256) = a + 256 * b := by
  obtain ⟨a0, a1⟩ := ha
  obtain ⟨b0, b1⟩ := hb
  obtain ⟨n, rfl⟩ := Int.eq_ofNat_of_zero_le a0
  obtain ⟨m, rfl⟩ := Int.eq_ofNat_of_zero_le b0
  have h := u16_or_nat n (m * 256) (by omega) (by omega)
  rw [Nat.or_comm, or_shift8 m n (by omega)] at h
  rw [show ((m * 256 : Nat) : Int) = (m : Int) * 256 from by omega] at h
  rw [h]
  omega
theorem u16_or_zero (a : Int) (ha : B8 a) : bits .or .u16 0 a = a := by
  obtain ⟨a0, a1⟩ := ha
  obtain ⟨n, rfl⟩ := Int.eq_ofNat_of_zero_le a0
  have h := u16_or_nat 0 n (by omega) (by omega)
  simpa using h
set_option maxHeartbeats 1000000 in
theorem operand_0 (A : Option Addr) (c : Nat) (w : World) : Calls Try.prog 40 #[.slice A 0 c] w fun e w' => e = .returned (.int .u16 0) ∧ w = w' := by
  go_enter Try.func40, Try.ntmps40
  go_wp2_with fail
  go_loopw [3, 8] (fun n i wr => n = .int .u16 0 ∧ i = .int .i64 0 ∧ wr = w) (fun n i wr => 0)
  case atStart => exact ⟨rfl, rfl, rfl⟩
  case round =>
    obtain ⟨rfl, rfl, rfl⟩ := hrel
    go_wp2_with fail
    go_ret
    exact ⟨rfl, rfl⟩
set_option maxHeartbeats 1000000 in
theorem operand_1 (ad : Addr) (c : Nat) (x : Int) (w : World) (h0 : w.cell? ad = some (.int .u8 x)) (hx : B8 x) : Calls Try.prog 40 #[.slice (some ad) 1 c] w fun e w' => e = .returned (.int .u16 x) ∧ w = w' := by
  have e0 := Lib.hid (u16_or_zero x hx)
  obtain ⟨x0, x1⟩ := hx
  go_enter Try.func40, Try.ntmps40
  go_wp2_with fail
  go_loopw [3, 8] (fun n i wr => (n = .int .u16 0 ∧ i = .int .i64 0 ∨ n = .int .u16 x ∧ i = .int .i64 1) ∧ wr = w) (fun n i wr => 1 - (intOf i).toNat)
  case atStart => exact ⟨.inl ⟨rfl, rfl⟩, rfl⟩
  case round =>
    obtain ⟨h, rfl⟩ := hrel
    rcases h with ⟨rfl, rfl⟩ | ⟨rfl, rfl⟩
    · have e0 := e0.out
      go_wp2_with fail
      go_roundw
      case rel => exact ⟨.inr ⟨rfl, rfl⟩, trivial⟩
      case measure => simp [intOf]
    · go_wp2_with fail
      go_ret
      exact ⟨rfl, rfl⟩
set_option maxHeartbeats 1000000 in
theorem operand_2 (ad : Addr) (c : Nat) (x y : Int) (w : World) (h0 : w.cell? ad = some (.int .u8 x)) (h1 : w.cell? ⟨ad.block, ad.off + 1, none⟩ = some (.int .u8 y)) (hx : B8 x) (hy : B8 y) : Calls Try.prog 40 #[.slice (some ad) 2 c] w fun e w' => e = .returned (.int .u16 (x + 256 * y)) ∧ w = w' := by
  have e0 := Lib.hid (u16_or_zero x hx)
  have e1 := Lib.hid (u16_or_hi x y hx hy)
  obtain ⟨x0, x1⟩ := hx
  obtain ⟨y0, y1⟩ := hy
  go_enter Try.func40, Try.ntmps40
  go_wp2_with fail
  go_loopw [3, 8] (fun n i wr => (n = .int .u16 0 ∧ i = .int .i64 0 ∨ n = .int .u16 x ∧ i = .int .i64 1 ∨ n = .int .u16 (x + 256 * y) ∧ i = .int .i64 2) ∧ wr = w) (fun n i wr => 2 - (intOf i).toNat)
  case atStart => exact ⟨.inl ⟨rfl, rfl⟩, rfl⟩
  case round =>
    obtain ⟨h, rfl⟩ := hrel
    rcases h with ⟨rfl, rfl⟩ | ⟨rfl, rfl⟩ | ⟨rfl, rfl⟩
    · have e0 := e0.out
      go_wp2_with fail
      go_roundw
      case rel => exact ⟨.inr (.inl ⟨rfl, rfl⟩), trivial⟩
      case measure => simp [intOf]
    · have e1 := e1.out
      go_wp2_with fail
      go_roundw
      case rel => exact ⟨.inr (.inr ⟨rfl, rfl⟩), trivial⟩
      case measure => simp [intOf]
    · go_wp2_with fail
      go_ret
      exact ⟨rfl, rfl⟩
end Go.Proofs.Ytjkakmmhbciilaa
