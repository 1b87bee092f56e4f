/- wire.Reader: a reader without a fault. -/
import Derived.Test.YtiiipklbbajadaaRows
import Derived.Test.YtiiipklbbajadaaMemC
import Derived.Test.YtiiipklbbajadaaFrm
import Derived.Test.YtiiipklbbajadaaBits
import Derived.BigQuiet
import Derived.Deep.QuietTactic
import Derived.OwnWalk
namespace Go.Proofs.Ytiiipklbbajadaa
set_option linter.unusedSimpArgs false
set_option linter.unusedVariables false
open Go.RowKit
/-- a reader of bytes, at a place, without a fault -/
def Rdr (w : World) (r : Nat) (A : Option Addr) (n c at_ : Nat) : Prop := Blk w r 88 [.slice A n c, .int .i64 at_, .pointer none]
/-- numbers that are bytes -/
def Byts (l : List Int) : Prop := ∀ x ∈ l, 0 ≤ x ∧ x ≤ 255
/-- bytes as a number -/
def leVal : List Int → Int
  | [] => 0
  | x :: t => x + 256 * leVal t
theorem wireRead_any (A : Option Addr) (n c : Nat) (w : World) :
    Calls Try.prog 41 #[.slice A n c] w fun e w' => e = .returned (.pointer (some ⟨w.heap.size, 0, none⟩)) ∧ w' = w.alloc (.cells #[.slice A n c, .int .i64 0, .pointer none] 88) := by
  go_enter Try.func41, Try.ntmps41
  go_wp2_with fail
  go_ret
  exact ⟨rfl, rfl⟩
theorem wireBad_ok (r : Nat) (A : Option Addr) (n c k : Nat) (w : World) (hr : Rdr w r A n c k) :
    Calls Try.prog 44 #[.pointer (some ⟨r, 0, none⟩)] w fun e w' => e = .returned (.bool false) ∧ w = w' := by
  have h2 : w.cell? ⟨r, 2, none⟩ = some (.pointer none) := hr.cell 2
  go_enter Try.func44, Try.ntmps44
  go_wp2_with fail
  go_ret
  exact ⟨rfl, rfl⟩
theorem wireLeft_ok (r : Nat) (A : Option Addr) (n c k : Nat) (w : World) (hr : Rdr w r A n c k) (hk : k ≤ n) (hn : n ≤ 4611686018427387904) :
    Calls Try.prog 42 #[.pointer (some ⟨r, 0, none⟩)] w fun e w' => e = .returned (.int .i64 ((n : Int) - k)) ∧ Drew w w' := by
  have h0 : w.cell? ⟨r, 0, none⟩ = some (.slice A n c) := hr.cell 0
  have h1 : w.cell? ⟨r, 1, none⟩ = some (.int .i64 k) := hr.cell 1
  have h2 : w.cell? ⟨r, 2, none⟩ = some (.pointer none) := hr.cell 2
  have w1 : IntKind.i64.wrap ((n : Int) - k) = (n : Int) - k := by rw [IntKind.wrap_i64]; omega
  go_enter Try.func42, Try.ntmps42
  go_wp2_with fail
  go_quiet (fail)
  go_wp2_with fail
  go_ret
  exact ⟨rfl, _, rfl⟩
theorem wireAt_ok (r : Nat) (A : Option Addr) (n c k : Nat) (w : World) (hr : Rdr w r A n c k) :
    Calls Try.prog 51 #[.pointer (some ⟨r, 0, none⟩)] w fun e w' => e = .returned (.int .i64 k) ∧ w = w' := by
  have h1 : w.cell? ⟨r, 1, none⟩ = some (.int .i64 k) := hr.cell 1
  go_enter Try.func51, Try.ntmps51
  go_wp2_with fail
  go_ret
  exact ⟨rfl, rfl⟩
/-- bytes have been taken: the place moved on -/
def Took (r : Nat) (k j : Nat) (w w' : World) : Prop := ∃ q, w' = (w.drewN q).setCell ⟨r, 1, none⟩ (.int .i64 ((k : Int) + j))
theorem took_grown {r k j : Nat} {w w' : World} (h : Took r k j w w') : w.grownBy w' (some r) := by
  obtain ⟨q, rfl⟩ := h
  exact grownBy_setCell (grownBy_drewN (grownBy_refl w _) q) 1 _
theorem took_rdr {r k j n c : Nat} {A : Option Addr} {w w' : World} (h : Took r k j w w') (hr : Rdr w r A n c k) : Rdr w' r A n c (k + j) := by
  obtain ⟨q, rfl⟩ := h
  exact (hr.drewN q).set_ 1 _
theorem wireNext_ok (r : Nat) (A : Addr) (n c k j : Nat) (w : World) (hr : Rdr w r (some A) n c k) (hj : 1 ≤ j) (hk : k + j ≤ n) (hn : n ≤ 4611686018427387904) (hc : n ≤ c) :
    Calls Try.prog 53 #[.pointer (some ⟨r, 0, none⟩), .int .i64 j] w fun e w' => e = .returned (.slice (some (A.add k)) j (c - k)) ∧ Took r k j w w' := by
  have h0 : w.cell? ⟨r, 0, none⟩ = some (.slice (some A) n c) := hr.cell 0
  have h1 : w.cell? ⟨r, 1, none⟩ = some (.int .i64 k) := hr.cell 1
  have h2 : w.cell? ⟨r, 2, none⟩ = some (.pointer none) := hr.cell 2
  have f1 : w.frozen? ⟨r, 1, none⟩ = false := hr.frozen 1
  have w1 : IntKind.i64.wrap ((k : Int) + j) = (k : Int) + j := by rw [IntKind.wrap_i64]; omega
  have hck : ¬ c = k := by omega
  have HL := Lib.hid (wireLeft_ok r (some A) n c k w hr (by omega) hn)
  clear hr
  go_enter Try.func53, Try.ntmps53
  go_wp2_with (first
    | (go_at_call 42; refine HL.out.mono ?_; rintro e w2 ⟨rfl, q, rfl⟩))
  go_quiet (fail)
  go_wp2_with fail
  go_ret
  exact ⟨by simp, _, rfl⟩
/-- the bytes of a list that were read, as a number, so many of them -/
theorem leVal_take (l : List Int) (k : Nat) (x : Int) (h : l[k]? = some x) : leVal (l.take (k + 1)) = leVal (l.take k) + x * 256 ^ k := by
  induction k generalizing l with
  | zero => cases l with
    | nil => simp at h
    | cons y t => simp at h; simp [leVal, h]
  | succ k ih => cases l with
    | nil => simp at h
    | cons y t =>
      simp at h
      simp only [List.take_succ_cons, leVal]
      rw [ih t h, Int.pow_succ]
      rw [Int.mul_add, Int.add_assoc, Int.mul_left_comm, Int.mul_comm (256 ^ k) 256]
theorem leVal_range (l : List Int) (hl : Byts l) : 0 ≤ leVal l ∧ leVal l < 256 ^ l.length := by
  induction l with
  | nil => simp [leVal]
  | cons y t ih =>
    have h1 := hl y (by simp)
    have h2 := ih (fun x hx => hl x (by simp [hx]))
    obtain ⟨y0, y1⟩ := h1
    obtain ⟨z0, z1⟩ := h2
    simp only [leVal, List.length_cons, Int.pow_succ]
    omega
theorem or_shift (V x : Int) (k : Nat) (hk : k ≤ 3) (v0 : 0 ≤ V) (v1 : V < 256 ^ k) (x0 : 0 ≤ x) (x1 : x ≤ 255) : bits BinOp.or IntKind.i64 V (wrap64 (x * 2 ^ (8 * k))) = V + x * 256 ^ k := by
  obtain ⟨a, rfl⟩ := Int.eq_ofNat_of_zero_le v0
  obtain ⟨b, rfl⟩ := Int.eq_ofNat_of_zero_le x0
  have ha : a < 2 ^ (8 * k) := by
    have : ((a : Int)) < ((2 ^ (8 * k) : Nat) : Int) := by
      rw [show (2 : Nat) ^ (8 * k) = 256 ^ k by rw [Nat.pow_mul]]
      simpa using v1
    exact_mod_cast this
  have hw : wrap64 ((b : Int) * 2 ^ (8 * k)) = ((b * 2 ^ (8 * k) : Nat) : Int) := by
    have hk4 : k = 0 ∨ k = 1 ∨ k = 2 ∨ k = 3 := by omega
    rcases hk4 with rfl | rfl | rfl | rfl <;> · unfold wrap64; simp; omega
  have hlt : b * 2 ^ (8 * k) < 9223372036854775808 ∧ a < 9223372036854775808 := by
    have hk4 : k = 0 ∨ k = 1 ∨ k = 2 ∨ k = 3 := by omega
    rcases hk4 with rfl | rfl | rfl | rfl <;> · simp at ha ⊢; omega
  rw [hw, i64_or_nat _ _ hlt.2 hlt.1]
  have h := Nat.shiftLeft_add_eq_or_of_lt ha b
  rw [Nat.shiftLeft_eq] at h
  rw [Nat.or_comm, ← h, Nat.pow_mul]
  simp
  omega
set_option maxHeartbeats 1000000 in
theorem wireNumber_any (A : Addr) (n c : Nat) (l : List Int) (w : World) (hl : Ints w (some A) .u8 l) (hn : l.length = n) (hn4 : n ≤ 4) (hb : Byts l) :
    Calls Try.prog 52 #[.slice (some A) n c] w fun e w' => e = .returned (.int .i64 (leVal l)) ∧ w = w' := by
  have HL := Lib.hid hl; have HN := Lib.hid hn; have HB := Lib.hid hb
  clear hl hn hb
  go_enter Try.func52, Try.ntmps52
  go_wp2_with fail
  go_loopw [3, 8] (fun v i wr => ∃ (k : Nat) (V : Int), k ≤ n ∧ i = .int .i64 k ∧ v = .int .i64 V ∧ Hid (V = leVal (l.take k)) ∧ w = wr) (fun _ i _ => n - (intOf i).toNat)
  case atStart => exact ⟨0, 0, by omega, rfl, rfl, rfl, rfl⟩
  case round =>
    obtain ⟨k, V, hk, rfl, rfl, HV, rfl⟩ := hrel
    by_cases hlt : k < n
    · obtain ⟨x, hx⟩ : ∃ x, l[k]? = some x := ⟨_, List.getElem?_eq_getElem (by rw [HN.out]; exact hlt)⟩
      obtain ⟨ad, e, hc⟩ := HL.out k (.int .u8 x) (by simp [hx])
      injection e with e
      subst e
      obtain ⟨x0, x1⟩ := HB.out x (List.mem_of_getElem? hx)
      have hv := leVal_range (l.take k) (fun y hy => HB.out y (List.mem_of_mem_take hy))
      rw [List.length_take, HN.out, Nat.min_eq_left hk, ← HV.out] at hv
      have hs := leVal_take l k x hx
      rw [← HV.out] at hs
      have HS := Lib.hid hs
      obtain ⟨v0, v1⟩ := hv
      clear hx hs
      have HO := Lib.hid (or_shift V x k (by omega) v0 v1 x0 x1)
      have HV2 : Hid (V + x * 256 ^ k = leVal (l.take (k + 1))) := HS.out.symm
      go_wp2_with fail
      go_roundw
      case rel => exact ⟨k + 1, V + x * 256 ^ k, by omega, by go_num, by rw [HO.out], HV2, trivial⟩
      case measure => simp [intOf]; omega
    · obtain rfl : k = n := by omega
      have HF : Hid (V = leVal l) := by show _ = _; rw [HV.out, List.take_of_length_le (by rw [HN.out]; exact Nat.le_refl _)]
      go_wp2_with fail
      go_ret
      exact ⟨by rw [← HF.out]; rfl, rfl⟩
/-- a number is read -/
theorem wireNum_ok (r : Nat) (A : Addr) (n c k j : Nat) (l : List Int) (w : World) (hr : Rdr w r (some A) n c k) (hl : Ints w (some (A.add k)) .u8 l) (hlj : l.length = j) (hb : Byts l) (hne : A.block ≠ r) (hj : 1 ≤ j) (hj4 : j ≤ 4) (hk : k + j ≤ n) (hn : n ≤ 4611686018427387904) (hc : n ≤ c) :
    Calls Try.prog 43 #[.pointer (some ⟨r, 0, none⟩), .int .i64 j] w fun e w' => e = .returned (.int .i64 (leVal l)) ∧ Took r k j w w' := by
  have HN := Lib.hid (wireNext_ok r A n c k j w hr hj hk hn hc)
  have HT : Hid (∀ w', Took r k j w w' → Ints w' (some (A.add k)) .u8 l) := by
    exact fun w' ht => Cells.grown hl (took_grown ht) (fun ad h => .inr (by injection h with h; rw [← h, block_of_add]; exact hne))
  have HM := Lib.hid (fun u hu => wireNumber_any (A.add k) j (c - k) l u hu hlj hj4 hb)
  clear hr hl hlj hb
  go_enter Try.func43, Try.ntmps43
  go_wp2_with (first
    | (go_at_call 53; refine HN.out.mono ?_; rintro e w2 ⟨rfl, ht⟩)
    | (go_at_call 52; refine (HM.out _ (HT.out _ ht)).mono ?_; rintro e w3 ⟨rfl, rfl⟩))
  go_ret
  exact ⟨rfl, ht⟩
end Go.Proofs.Ytiiipklbbajadaa
