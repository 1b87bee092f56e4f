/- Texts that are laid together: G16. -/
import Derived.WalkKit
import Derived.Test.YtokidpajialgbaaRows
import Derived.Test.YtokidpajialgbaaQG00
import Derived.Test.YtokidpajialgbaaQG01
import Derived.BigQuiet
import Derived.Deep.QuietTactic
import Derived.OwnWalk
namespace Go.Proofs.Ytokidpajialgbaa
open Go.RowKit
theorem i64_or_nat (a b : Nat) (ha : a < 9223372036854775808) (hb : b < 9223372036854775808) : bits .or .i64 (a : Int) (b : Int) = ((a ||| b : Nat) : Int) := by
  have h1 : (BitVec.ofInt 64 (a : Int)).toNat = a := ofInt_u64 a (by omega)
  have h2 : (BitVec.ofInt 64 (b : Int)).toNat = b := ofInt_u64 b (by omega)
  show IntKind.i64.wrap (((BitVec.ofInt 64 (a : Int) ||| BitVec.ofInt 64 (b : Int)).toNat : Nat) : Int) = _
  have h3 : a ||| b < 2 ^ 63 := Nat.or_lt_two_pow (by omega) (by omega)
  rw [BitVec.toNat_or, h1, h2, IntWalk.i64_in _ ⟨by omega, by omega⟩]
theorem i64_and_nat (a b : Nat) (ha : a < 9223372036854775808) (hb : b < 9223372036854775808) : bits .and .i64 (a : Int) (b : Int) = ((a &&& b : Nat) : Int) := by
  have h1 : (BitVec.ofInt 64 (a : Int)).toNat = a := ofInt_u64 a (by omega)
  have h2 : (BitVec.ofInt 64 (b : Int)).toNat = b := ofInt_u64 b (by omega)
  show IntKind.i64.wrap (((BitVec.ofInt 64 (a : Int) &&& BitVec.ofInt 64 (b : Int)).toNat : Nat) : Int) = _
  have h3 : a &&& b < 2 ^ 63 := Nat.and_lt_two_pow a (by omega)
  rw [BitVec.toNat_and, h1, h2, IntWalk.i64_in _ ⟨by omega, by omega⟩]
theorem i64_xor_nat (a b : Nat) (ha : a < 9223372036854775808) (hb : b < 9223372036854775808) : bits .xor .i64 (a : Int) (b : Int) = ((a ^^^ b : Nat) : Int) := by
  have h1 : (BitVec.ofInt 64 (a : Int)).toNat = a := ofInt_u64 a (by omega)
  have h2 : (BitVec.ofInt 64 (b : Int)).toNat = b := ofInt_u64 b (by omega)
  show IntKind.i64.wrap (((BitVec.ofInt 64 (a : Int) ^^^ BitVec.ofInt 64 (b : Int)).toNat : Nat) : Int) = _
  have h3 : a ^^^ b < 2 ^ 63 := Nat.xor_lt_two_pow (by omega) (by omega)
  rw [BitVec.toNat_xor, h1, h2, IntWalk.i64_in _ ⟨by omega, by omega⟩]
end Go.Proofs.Ytokidpajialgbaa
namespace Go.Proofs.Ytokidpajialgbaa
set_option linter.unusedSimpArgs false
set_option linter.unusedVariables false
open Go.RowKit
/-- a reader of bytes, at a place, without a fault -/
def Rdr (w : World) (r : Nat) (A : Option Addr) (n c at_ : Nat) : Prop := Blk w r 100 [.slice A n c, .int .i64 at_, .pointer none]
/-- numbers that are bytes -/
def Byts (l : List Int) : Prop := ∀ x ∈ l, 0 ≤ x ∧ x ≤ 255
/-- bytes as a number -/
def leVal : List Int → Int
  | [] => 0
  | x :: t => x + 256 * leVal t
theorem wireRead_any (A : Option Addr) (n c : Nat) (w : World) :
    Calls Try.prog 31 #[.slice A n c] w fun e w' => e = .returned (.pointer (some ⟨w.heap.size, 0, none⟩)) ∧ w' = w.alloc (.cells #[.slice A n c, .int .i64 0, .pointer none] 100) := by
  go_enter Try.func31, Try.ntmps31
  go_wp2_with fail
  go_ret
  exact ⟨rfl, rfl⟩
theorem wireBad_ok (r : Nat) (A : Option Addr) (n c k : Nat) (w : World) (hr : Rdr w r A n c k) :
    Calls Try.prog 114 #[.pointer (some ⟨r, 0, none⟩)] w fun e w' => e = .returned (.bool false) ∧ w = w' := by
  have h2 : w.cell? ⟨r, 2, none⟩ = some (.pointer none) := hr.cell 2
  go_enter Try.func114, Try.ntmps114
  go_wp2_with fail
  go_ret
  exact ⟨rfl, rfl⟩
theorem wireLeft_ok (r : Nat) (A : Option Addr) (n c k : Nat) (w : World) (hr : Rdr w r A n c k) (hk : k ≤ n) (hn : n ≤ 4611686018427387904) :
    Calls Try.prog 34 #[.pointer (some ⟨r, 0, none⟩)] w fun e w' => e = .returned (.int .i64 ((n : Int) - k)) ∧ Drew w w' := by
  have h0 : w.cell? ⟨r, 0, none⟩ = some (.slice A n c) := hr.cell 0
  have h1 : w.cell? ⟨r, 1, none⟩ = some (.int .i64 k) := hr.cell 1
  have h2 : w.cell? ⟨r, 2, none⟩ = some (.pointer none) := hr.cell 2
  have w1 : IntKind.i64.wrap ((n : Int) - k) = (n : Int) - k := by rw [IntKind.wrap_i64]; omega
  go_enter Try.func34, Try.ntmps34
  go_wp2_with fail
  go_quiet (fail)
  go_wp2_with fail
  go_ret
  exact ⟨rfl, _, rfl⟩
theorem wireAt_ok (r : Nat) (A : Option Addr) (n c k : Nat) (w : World) (hr : Rdr w r A n c k) :
    Calls Try.prog 36 #[.pointer (some ⟨r, 0, none⟩)] w fun e w' => e = .returned (.int .i64 k) ∧ w = w' := by
  have h1 : w.cell? ⟨r, 1, none⟩ = some (.int .i64 k) := hr.cell 1
  go_enter Try.func36, Try.ntmps36
  go_wp2_with fail
  go_ret
  exact ⟨rfl, rfl⟩
/-- bytes have been taken: the place moved on -/
def Took (r : Nat) (k j : Nat) (w w' : World) : Prop := ∃ q, w' = (w.drewN q).setCell ⟨r, 1, none⟩ (.int .i64 ((k : Int) + j))
theorem took_grown {r k j : Nat} {w w' : World} (h : Took r k j w w') : w.grownBy w' (some r) := by
  obtain ⟨q, rfl⟩ := h
  exact grownBy_setCell (grownBy_drewN (grownBy_refl w _) q) 1 _
theorem took_rdr {r k j n c : Nat} {A : Option Addr} {w w' : World} (h : Took r k j w w') (hr : Rdr w r A n c k) : Rdr w' r A n c (k + j) := by
  obtain ⟨q, rfl⟩ := h
  exact (hr.drewN q).set_ 1 _
theorem wireNext_ok (r : Nat) (A : Addr) (n c k j : Nat) (w : World) (hr : Rdr w r (some A) n c k) (hj : 1 ≤ j) (hk : k + j ≤ n) (hn : n ≤ 4611686018427387904) (hc : n ≤ c) :
    Calls Try.prog 63 #[.pointer (some ⟨r, 0, none⟩), .int .i64 j] w fun e w' => e = .returned (.slice (some (A.add k)) j (c - k)) ∧ Took r k j w w' := by
  have h0 : w.cell? ⟨r, 0, none⟩ = some (.slice (some A) n c) := hr.cell 0
  have h1 : w.cell? ⟨r, 1, none⟩ = some (.int .i64 k) := hr.cell 1
  have h2 : w.cell? ⟨r, 2, none⟩ = some (.pointer none) := hr.cell 2
  have f1 : w.frozen? ⟨r, 1, none⟩ = false := hr.frozen 1
  have w1 : IntKind.i64.wrap ((k : Int) + j) = (k : Int) + j := by rw [IntKind.wrap_i64]; omega
  have hck : ¬ c = k := by omega
  have HL := Lib.hid (wireLeft_ok r (some A) n c k w hr (by omega) hn)
  clear hr
  go_enter Try.func63, Try.ntmps63
  go_wp2_with (first
    | (go_at_call 34; refine HL.out.mono ?_; rintro e w2 ⟨rfl, q, rfl⟩))
  go_quiet (fail)
  go_wp2_with fail
  go_ret
  exact ⟨by simp, _, rfl⟩
/-- the bytes of a list that were read, as a number, so many of them -/
theorem leVal_take (l : List Int) (k : Nat) (x : Int) (h : l[k]? = some x) : leVal (l.take (k + 1)) = leVal (l.take k) + x * 256 ^ k := by
  induction k generalizing l with
  | zero => cases l with
    | nil => simp at h
    | cons y t => simp at h; simp [leVal, h]
  | succ k ih => cases l with
    | nil => simp at h
    | cons y t =>
      simp at h
      simp only [List.take_succ_cons, leVal]
      rw [ih t h, Int.pow_succ]
      rw [Int.mul_add, Int.add_assoc, Int.mul_left_comm, Int.mul_comm (256 ^ k) 256]
theorem leVal_range (l : List Int) (hl : Byts l) : 0 ≤ leVal l ∧ leVal l < 256 ^ l.length := by
  induction l with
  | nil => simp [leVal]
  | cons y t ih =>
    have h1 := hl y (by simp)
    have h2 := ih (fun x hx => hl x (by simp [hx]))
    obtain ⟨y0, y1⟩ := h1
    obtain ⟨z0, z1⟩ := h2
    simp only [leVal, List.length_cons, Int.pow_succ]
    omega
theorem or_shift (V x : Int) (k : Nat) (hk : k ≤ 3) (v0 : 0 ≤ V) (v1 : V < 256 ^ k) (x0 : 0 ≤ x) (x1 : x ≤ 255) : bits BinOp.or IntKind.i64 V (wrap64 (x * 2 ^ (8 * k))) = V + x * 256 ^ k := by
  obtain ⟨a, rfl⟩ := Int.eq_ofNat_of_zero_le v0
  obtain ⟨b, rfl⟩ := Int.eq_ofNat_of_zero_le x0
  have ha : a < 2 ^ (8 * k) := by
    have : ((a : Int)) < ((2 ^ (8 * k) : Nat) : Int) := by
      rw [show (2 : Nat) ^ (8 * k) = 256 ^ k by rw [Nat.pow_mul]]
      simpa using v1
    exact_mod_cast this
  have hw : wrap64 ((b : Int) * 2 ^ (8 * k)) = ((b * 2 ^ (8 * k) : Nat) : Int) := by
    have hk4 : k = 0 ∨ k = 1 ∨ k = 2 ∨ k = 3 := by omega
    rcases hk4 with rfl | rfl | rfl | rfl <;> · unfold wrap64; simp; omega
  have hlt : b * 2 ^ (8 * k) < 9223372036854775808 ∧ a < 9223372036854775808 := by
    have hk4 : k = 0 ∨ k = 1 ∨ k = 2 ∨ k = 3 := by omega
    rcases hk4 with rfl | rfl | rfl | rfl <;> · simp at ha ⊢; omega
  rw [hw, i64_or_nat _ _ hlt.2 hlt.1]
  have h := Nat.shiftLeft_add_eq_or_of_lt ha b
  rw [Nat.shiftLeft_eq] at h
  rw [Nat.or_comm, ← h, Nat.pow_mul]
  simp
  omega
set_option maxHeartbeats 1000000 in
theorem wireNumber_any (A : Addr) (n c : Nat) (l : List Int) (w : World) (hl : Ints w (some A) .u8 l) (hn : l.length = n) (hn4 : n ≤ 4) (hb : Byts l) :
    Calls Try.prog 64 #[.slice (some A) n c] w fun e w' => e = .returned (.int .i64 (leVal l)) ∧ w = w' := by
  have HL := Lib.hid hl; have HN := Lib.hid hn; have HB := Lib.hid hb
  clear hl hn hb
  go_enter Try.func64, Try.ntmps64
  go_wp2_with fail
  go_loopw [3, 8] (fun v i wr => ∃ (k : Nat) (V : Int), k ≤ n ∧ i = .int .i64 k ∧ v = .int .i64 V ∧ Hid (V = leVal (l.take k)) ∧ w = wr) (fun _ i _ => n - (intOf i).toNat)
  case atStart => exact ⟨0, 0, by omega, rfl, rfl, rfl, rfl⟩
  case round =>
    obtain ⟨k, V, hk, rfl, rfl, HV, rfl⟩ := hrel
    by_cases hlt : k < n
    · obtain ⟨x, hx⟩ : ∃ x, l[k]? = some x := ⟨_, List.getElem?_eq_getElem (by rw [HN.out]; exact hlt)⟩
      obtain ⟨ad, e, hc⟩ := HL.out k (.int .u8 x) (by simp [hx])
      injection e with e
      subst e
      obtain ⟨x0, x1⟩ := HB.out x (List.mem_of_getElem? hx)
      have hv := leVal_range (l.take k) (fun y hy => HB.out y (List.mem_of_mem_take hy))
      rw [List.length_take, HN.out, Nat.min_eq_left hk, ← HV.out] at hv
      have hs := leVal_take l k x hx
      rw [← HV.out] at hs
      have HS := Lib.hid hs
      obtain ⟨v0, v1⟩ := hv
      clear hx hs
      have HO := Lib.hid (or_shift V x k (by omega) v0 v1 x0 x1)
      have HV2 : Hid (V + x * 256 ^ k = leVal (l.take (k + 1))) := HS.out.symm
      go_wp2_with fail
      go_roundw
      case rel => exact ⟨k + 1, V + x * 256 ^ k, by omega, by go_num, by rw [HO.out], HV2, trivial⟩
      case measure => simp [intOf]; omega
    · obtain rfl : k = n := by omega
      have HF : Hid (V = leVal l) := by show _ = _; rw [HV.out, List.take_of_length_le (by rw [HN.out]; exact Nat.le_refl _)]
      go_wp2_with fail
      go_ret
      exact ⟨by rw [← HF.out]; rfl, rfl⟩
/-- a number is read -/
theorem wireNum_ok (r : Nat) (A : Addr) (n c k j : Nat) (l : List Int) (w : World) (hr : Rdr w r (some A) n c k) (hl : Ints w (some (A.add k)) .u8 l) (hlj : l.length = j) (hb : Byts l) (hne : A.block ≠ r) (hj : 1 ≤ j) (hj4 : j ≤ 4) (hk : k + j ≤ n) (hn : n ≤ 4611686018427387904) (hc : n ≤ c) :
    Calls Try.prog 33 #[.pointer (some ⟨r, 0, none⟩), .int .i64 j] w fun e w' => e = .returned (.int .i64 (leVal l)) ∧ Took r k j w w' := by
  have HN := Lib.hid (wireNext_ok r A n c k j w hr hj hk hn hc)
  have HT : Hid (∀ w', Took r k j w w' → Ints w' (some (A.add k)) .u8 l) := by
    exact fun w' ht => Cells.grown hl (took_grown ht) (fun ad h => .inr (by injection h with h; rw [← h, block_of_add]; exact hne))
  have HM := Lib.hid (fun u hu => wireNumber_any (A.add k) j (c - k) l u hu hlj hj4 hb)
  clear hr hl hlj hb
  go_enter Try.func33, Try.ntmps33
  go_wp2_with (first
    | (go_at_call 63; refine HN.out.mono ?_; rintro e w2 ⟨rfl, ht⟩)
    | (go_at_call 64; refine (HM.out _ (HT.out _ ht)).mono ?_; rintro e w3 ⟨rfl, rfl⟩))
  go_ret
  exact ⟨rfl, ht⟩
end Go.Proofs.Ytokidpajialgbaa
namespace Go.Proofs.Ytokidpajialgbaa
set_option linter.unusedSimpArgs false
set_option linter.unusedVariables false
open Go.RowKit
namespace Rd
/-- a reader's place, and its fault -/
structure St where
  k : Nat
  bad : Option (Int × Int)
/-- what reads bytes -/
abbrev RM (α : Type) := List Int → St → α × St
def ret {α : Type} (a : α) : RM α := fun _ s => (a, s)
def bind {α β : Type} (m : RM α) (f : α → RM β) : RM β := fun L s => f (m L s).1 L (m L s).2
def fail (s : St) (E p : Int) : St := match s.bad with
  | none => ⟨s.k, some (E, p)⟩
  | some _ => s
def left (n : Nat) (s : St) : Nat := match s.bad with
  | none => n - s.k
  | some _ => 0
def failM (E p : Int) : RM Unit := fun _ s => ((), fail s E p)
def nextM (j : Nat) : RM (List Int) := fun L s => match s.bad with
  | some _ => ([], s)
  | none => if L.length - s.k < j then ([], ⟨s.k, some (2, (s.k : Int))⟩) else ((L.drop s.k).take j, ⟨s.k + j, none⟩)
def num (j : Nat) : RM Int := bind (nextM j) fun l => ret (leVal l)
def signed : RM Int := bind (num 2) fun v => ret (if 32768 ≤ v then v - 65536 else v)
def take (j : Int) : RM (List Int) := fun L s => if j < 0 then ([], fail s 1 s.k) else nextM j.toNat L s
/-- so many, as long as there is no fault -/
def loop {α : Type} (f : RM α) : Nat → RM (List α)
  | 0 => ret []
  | m + 1 => fun L s => match s.bad with
    | some _ => ([], s)
    | none => bind f (fun x => bind (loop f m) fun l => ret (x :: l)) L s
/-- so many -/
def rep {α : Type} (f : RM α) : Nat → RM (List α)
  | 0 => ret []
  | m + 1 => bind f fun x => bind (rep f m) fun l => ret (x :: l)
def numbers (many : Int) (j : Nat) : RM (List Int) := fun L s =>
  if many < 0 then ([], fail s 1 s.k) else if (left L.length s : Int) / j < many then ([], fail s 2 s.k) else rep (num j) many.toNat L s
end Rd
/-- a fault's pointer -/
def BadAt (w : World) (v : Value) : Option (Int × Int) → Prop
  | none => v = .pointer none
  | some (E, p) => ∃ f, v = .pointer (some ⟨f, 0, none⟩) ∧ Blk w f 66 [.int .i64 E, .int .i64 p]
/-- a reader of the bytes L -/
structure RdIs (w : World) (R : Nat) (A : Addr) (n c : Nat) (L : List Int) (s : Rd.St) : Prop where
  rdr : ∃ bv, Blk w R 100 [.slice (some A) n c, .int .i64 s.k, bv] ∧ BadAt w bv s.bad
  ints : Ints w (some A) .u8 L
  len : L.length = n
  byt : Byts L
  lt : A.block < R
  cap : n ≤ c
  big : n ≤ 1048576
  le : s.k ≤ n
theorem blk_ne {w : World} {g h : Nat} {t u : TypeId} {cs ds : List Value} (a : Blk w g t cs) (b : Blk w h u ds) (hn : t ≠ u) : g ≠ h := fun e => by
  subst e
  unfold Blk at a b
  rw [a] at b
  injection b with b
  injection b with _ b
  exact hn b
theorem add_add (A : Addr) (k i : Nat) : (A.add k).add i = A.add (k + i) := by
  unfold Addr.add
  by_cases h1 : k = 0
  · simp [h1]
  · by_cases h2 : i = 0
    · simp [h1, h2]
    · simp [h1, h2, Nat.add_assoc]
theorem ints_drop {w : World} {A : Addr} {kd : IntKind} {L : List Int} (h : Ints w (some A) kd L) (k : Nat) : Ints w (some (A.add k)) kd (L.drop k) := fun i v hi => by
  obtain ⟨ad, e, hc⟩ := h (k + i) v (by simpa [List.getElem?_map, List.getElem?_drop] using hi)
  injection e with e
  subst e
  exact ⟨_, rfl, by rw [add_add]; exact hc⟩
theorem ints_take {w : World} {A : Option Addr} {kd : IntKind} {L : List Int} (h : Ints w A kd L) (k : Nat) : Ints w A kd (L.take k) := fun i v hi => by
  refine h i v ?_
  simp only [List.getElem?_map, List.getElem?_take] at hi ⊢
  split at hi
  · exact hi
  · simp at hi
theorem BadAt.grown {w w' : World} {R : Nat} {v : Value} {b : Option (Int × Int)} {t : TypeId} {cs : List Value} (h : BadAt w v b) (hR : Blk w R t cs) (ht : t ≠ 66) (hg : w.grownBy w' (some R)) : BadAt w' v b := by
  cases b with
  | none => exact h
  | some q =>
    obtain ⟨E, p⟩ := q
    obtain ⟨f, e1, e2⟩ := h
    exact ⟨f, e1, e2.grown hg (by have := blk_ne hR e2 ht; intro e; exact this (by simpa using e.symm))⟩
theorem BadAt.below {w w' : World} {v : Value} {b : Option (Int × Int)} (h : BadAt w v b) (hb : Below w.heap.size w w') : BadAt w' v b := by
  cases b with
  | none => exact h
  | some q =>
    obtain ⟨E, p⟩ := q
    obtain ⟨f, e1, e2⟩ := h
    exact ⟨f, e1, e2.below_ hb⟩
theorem RdIs.below {w w' : World} {R : Nat} {A : Addr} {n c : Nat} {L : List Int} {s : Rd.St} (h : RdIs w R A n c L s) (hb : Below w.heap.size w w') : RdIs w' R A n c L s := by
  obtain ⟨bv, h1, h2⟩ := h.rdr
  exact ⟨⟨bv, h1.below_ hb, h2.below hb⟩, h.ints.below hb, h.len, h.byt, h.lt, h.cap, h.big, h.le⟩
/-- another block has grown: one of another type -/
theorem RdIs.grown {w w' : World} {R b : Nat} {A : Addr} {n c : Nat} {L : List Int} {s : Rd.St} {t : TypeId} {cs : List Value} (h : RdIs w R A n c L s) (hb : Blk w b t cs) (ht : t ≠ 66) (hR : R < b) (hg : w.grownBy w' (some b)) : RdIs w' R A n c L s := by
  obtain ⟨bv, h1, h2⟩ := h.rdr
  have := h.lt
  exact ⟨⟨bv, h1.grown hg (by intro e; simp at e; omega), h2.grown hb ht hg⟩, Cells.grown h.ints hg (fun ad e => .inr (by injection e with e; rw [← e]; omega)), h.len, h.byt, h.lt, h.cap, h.big, h.le⟩
/-- a block has grown in which no fault lies -/
theorem RdIs.grownF {w w' : World} {R b : Nat} {A : Addr} {n c : Nat} {L : List Int} {s : Rd.St} (h : RdIs w R A n c L s) (hb : ∀ cs, ¬ Blk w b 66 cs) (hR : R < b) (hg : w.grownBy w' (some b)) : RdIs w' R A n c L s := by
  obtain ⟨bv, h1, h2⟩ := h.rdr
  have := h.lt
  refine ⟨⟨bv, h1.grown hg (by intro e; simp at e; omega), ?_⟩, Cells.grown h.ints hg (fun ad e => .inr (by injection e with e; rw [← e]; omega)), h.len, h.byt, h.lt, h.cap, h.big, h.le⟩
  obtain ⟨k, bad⟩ := s
  cases bad with
  | none => exact h2
  | some q =>
    obtain ⟨E, p⟩ := q
    obtain ⟨f, e1, e2⟩ := h2
    exact ⟨f, e1, e2.grown hg (by intro e; have : f = b := by simpa using e
                                  exact hb _ (this ▸ e2))⟩
theorem own_no_fault {w : World} {base size n g d : Nat} {e : TypeId} {xs : List Value} (h : w.ownsRow base e size (.slice (some ⟨g, 0, none⟩) n d) n xs) (he : e ≠ 66) : ∀ cs, ¬ Blk w g 66 cs := fun cs hb => by
  rcases h.2 with ⟨e1, _⟩ | ⟨g', c, cur, e1, _, e3, _⟩
  · cases e1
  · injection e1 with e1
    injection e1 with e1
    injection e1 with e1
    subst e1
    unfold Blk at hb
    rw [e3] at hb
    injection hb with hb
    injection hb with _ hb
    exact he hb
theorem RdIs.setCell {w : World} {R b i : Nat} {A : Addr} {n c : Nat} {L : List Int} {s : Rd.St} {t : TypeId} {cs : List Value} {u : Value} (h : RdIs w R A n c L s) (hb : Blk w b t cs) (ht : t ≠ 66) (hR : R < b) : RdIs (w.setCell ⟨b, i, none⟩ u) R A n c L s :=
  h.grown hb ht hR (grownBy_setCell (grownBy_refl w _) i u)
theorem RdIs.lt_ {w : World} {R : Nat} {A : Addr} {n c : Nat} {L : List Int} {s : Rd.St} (h : RdIs w R A n c L s) : R < w.heap.size := by
  obtain ⟨bv, h1, h2⟩ := h.rdr
  exact h1.lt
/-- the reader alone has turned, or memory has grown -/
def RdP (R : Nat) (A : Addr) (n c : Nat) (L : List Int) (w : World) (s : Rd.St) (v : Value) (e : Ending) (w' : World) : Prop := e = .returned v ∧ RdIs w' R A n c L s ∧ w.grownBy w' (some R)
theorem rdBad (R : Nat) (A : Addr) (n c : Nat) (L : List Int) (s : Rd.St) (w : World) (h : RdIs w R A n c L s) :
    Calls Try.prog 114 #[.pointer (some ⟨R, 0, none⟩)] w fun e w' => e = .returned (.bool s.bad.isSome) ∧ w = w' := by
  obtain ⟨⟨bv, h1, h2⟩, -⟩ := h
  have c2 : w.cell? ⟨R, 2, none⟩ = some bv := h1.cell 2
  obtain ⟨k, bad⟩ := s
  cases bad with
  | none =>
    obtain rfl : bv = .pointer none := h2
    clear h1
    go_enter Try.func114, Try.ntmps114
    go_wp2_with fail
    go_ret
    exact ⟨rfl, rfl⟩
  | some q =>
    obtain ⟨E, p⟩ := q
    obtain ⟨f, rfl, -⟩ := h2
    clear h1
    go_enter Try.func114, Try.ntmps114
    go_wp2_with fail
    go_ret
    exact ⟨rfl, rfl⟩
theorem rdAt (R : Nat) (A : Addr) (n c : Nat) (L : List Int) (s : Rd.St) (w : World) (h : RdIs w R A n c L s) :
    Calls Try.prog 36 #[.pointer (some ⟨R, 0, none⟩)] w fun e w' => e = .returned (.int .i64 s.k) ∧ w = w' := by
  obtain ⟨⟨bv, h1, h2⟩, -⟩ := h
  have c1 : w.cell? ⟨R, 1, none⟩ = some (.int .i64 s.k) := h1.cell 1
  clear h1 h2
  go_enter Try.func36, Try.ntmps36
  go_wp2_with fail
  go_ret
  exact ⟨rfl, rfl⟩
theorem rdLeft (R : Nat) (A : Addr) (n c : Nat) (L : List Int) (s : Rd.St) (w : World) (h : RdIs w R A n c L s) :
    Calls Try.prog 34 #[.pointer (some ⟨R, 0, none⟩)] w fun e w' => e = .returned (.int .i64 (Rd.left n s)) ∧ Drew w w' := by
  obtain ⟨⟨bv, h1, h2⟩, -, -, -, -, -, hb, hk⟩ := h
  obtain ⟨k, bad⟩ := s
  cases bad with
  | none =>
    obtain rfl : bv = .pointer none := h2
    refine (wireLeft_ok R (some A) n c k w h1 hk (by omega)).mono ?_
    rintro e w' ⟨rfl, hd⟩
    exact ⟨by rw [show (Rd.left n ⟨k, none⟩ : Int) = n - k from by show ((n - k : Nat) : Int) = _; simp at hk; omega], hd⟩
  | some q =>
    obtain ⟨E, p⟩ := q
    obtain ⟨f, rfl, -⟩ := h2
    have c2 : w.cell? ⟨R, 2, none⟩ = some (.pointer (some ⟨f, 0, none⟩)) := h1.cell 2
    clear h1
    go_enter Try.func34, Try.ntmps34
    go_wp2_with fail
    go_ret
    exact ⟨rfl, 0, rfl⟩
theorem rdFail (R : Nat) (A : Addr) (n c : Nat) (L : List Int) (s : Rd.St) (E p : Int) (w : World) (h : RdIs w R A n c L s) (hE : (E == 0) = false) :
    Calls Try.prog 35 #[.pointer (some ⟨R, 0, none⟩), .int .i64 E, .int .i64 p] w (RdP R A n c L w (Rd.fail s E p) (.tuple #[])) := by
  obtain ⟨⟨bv, h1, h2⟩, hi, hl, hby, hlt, hc, hb, hk⟩ := h
  obtain ⟨k, bad⟩ := s
  cases bad with
  | none =>
    obtain rfl : bv = .pointer none := h2
    have c2 : w.cell? ⟨R, 2, none⟩ = some (.pointer none) := h1.cell 2
    have f2 : w.frozen? ⟨R, 2, none⟩ = false := h1.frozen 2
    have hRl := h1.lt
    have HB := Lib.hid h1; have HI := Lib.hid hi
    clear h1 hi
    go_enter Try.func35, Try.ntmps35
    go_wp2_with fail
    go_end0
    obtain ⟨u, hu⟩ : ∃ u, u = w.setCell ⟨R, 2, none⟩ (.pointer (some ⟨w.heap.size, 0, none⟩)) := ⟨_, rfl⟩
    have hus : u.heap.size = w.heap.size := by rw [hu]; simp
    have hg0 : w.grownBy u (some R) := by rw [hu]; exact grownBy_setCell (grownBy_refl w _) 2 _
    have hB : Below u.heap.size u (u.alloc (.cells #[.int .i64 E, .int .i64 p] 66)) := (Below.refl _ u).alloc (Nat.le_refl _) _
    have hg : w.grownBy (u.alloc (.cells #[.int .i64 E, .int .i64 p] 66)) (some R) := grownBy_trans hg0 (grownBy_below hB)
    have hR : Blk u R 100 [.slice (some A) n c, .int .i64 k, .pointer (some ⟨w.heap.size, 0, none⟩)] := by rw [hu]; exact HB.out.set_ 2 _
    have hF := Blk.new u 66 [.int .i64 E, .int .i64 p]
    rw [hus] at hF
    rw [← hu]
    refine ⟨rfl, ⟨⟨_, hR.below_ hB, w.heap.size, rfl, hF⟩, ?_, hl, hby, hlt, hc, hb, hk⟩, hg⟩
    exact Cells.grown HI.out hg (fun ad e => .inr (by injection e with e; rw [← e]; omega))
  | some q =>
    obtain ⟨E', p'⟩ := q
    obtain ⟨f, rfl, hf⟩ := h2
    have c2 : w.cell? ⟨R, 2, none⟩ = some (.pointer (some ⟨f, 0, none⟩)) := h1.cell 2
    have HB := Lib.hid h1; have HI := Lib.hid hi; have HF := Lib.hid hf
    clear h1 hi hf
    go_enter Try.func35, Try.ntmps35
    go_wp2_with fail
    go_end0
    exact ⟨rfl, ⟨⟨_, HB.out, f, rfl, HF.out⟩, HI.out, hl, hby, hlt, hc, hb, hk⟩, grownBy_refl w _⟩
end Go.Proofs.Ytokidpajialgbaa
