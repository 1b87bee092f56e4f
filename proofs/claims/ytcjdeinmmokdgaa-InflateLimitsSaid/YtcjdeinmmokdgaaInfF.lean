/- What stored blocks are unpacked to: plain. -/
import Derived.Test.YtcjdeinmmokdgaaInfE
namespace Go.Proofs.Ytcjdeinmmokdgaa
set_option linter.unusedSimpArgs false
set_option linter.unusedVariables false
open Go.RowKit
namespace Hf
theorem takeVal_add (bs : List Int) (pos m n : Nat) : takeVal bs pos (m + n) = takeVal bs pos m + takeVal bs (pos + m) n * 2 ^ m := by
  induction n with
  | zero => simp [takeVal]
  | succ n ih =>
    rw [← Nat.add_assoc, takeVal, ih, takeVal, Nat.add_assoc, Int.add_mul, Int.pow_add, Int.mul_assoc, Int.mul_comm (2 ^ n) (2 ^ m)]
    omega
theorem byte_bits (x : Int) (h0 : 0 ≤ x) (h1 : x ≤ 255) : x / 2 ^ 0 % 2 * 2 ^ 0 + x / 2 ^ 1 % 2 * 2 ^ 1 + x / 2 ^ 2 % 2 * 2 ^ 2 + x / 2 ^ 3 % 2 * 2 ^ 3 + x / 2 ^ 4 % 2 * 2 ^ 4 + x / 2 ^ 5 % 2 * 2 ^ 5 + x / 2 ^ 6 % 2 * 2 ^ 6 + x / 2 ^ 7 % 2 * 2 ^ 7 = x := by
  obtain ⟨n, rfl⟩ := Int.eq_ofNat_of_zero_le h0
  have key : ∀ k : Fin 256, ((k.1 : Int)) / 2 ^ 0 % 2 * 2 ^ 0 + (k.1 : Int) / 2 ^ 1 % 2 * 2 ^ 1 + (k.1 : Int) / 2 ^ 2 % 2 * 2 ^ 2 + (k.1 : Int) / 2 ^ 3 % 2 * 2 ^ 3 + (k.1 : Int) / 2 ^ 4 % 2 * 2 ^ 4 + (k.1 : Int) / 2 ^ 5 % 2 * 2 ^ 5 + (k.1 : Int) / 2 ^ 6 % 2 * 2 ^ 6 + (k.1 : Int) / 2 ^ 7 % 2 * 2 ^ 7 = (k.1 : Int) := by decide +kernel
  exact key ⟨n, by omega⟩
theorem bit_of (bs : List Int) (q i : Nat) (hi : i < 8) : bitAt bs (8 * q + i) = bs.getD q 0 / 2 ^ i % 2 := by
  unfold bitAt
  rw [show (8 * q + i) / 8 = q by omega, show (8 * q + i) % 8 = i by omega]
theorem take8 (bs : List Int) (q : Nat) (h : 0 ≤ bs.getD q 0 ∧ bs.getD q 0 ≤ 255) : takeVal bs (8 * q) 8 = bs.getD q 0 := by
  have hb := byte_bits _ h.1 h.2
  simp only [takeVal, bit_of bs q _ (show 0 < 8 by omega), bit_of bs q _ (show 1 < 8 by omega), bit_of bs q _ (show 2 < 8 by omega), bit_of bs q _ (show 3 < 8 by omega), bit_of bs q _ (show 4 < 8 by omega), bit_of bs q _ (show 5 < 8 by omega), bit_of bs q _ (show 6 < 8 by omega), bit_of bs q _ (show 7 < 8 by omega), Int.zero_add, Nat.zero_add]
  exact hb
def le16 (bs : List Int) (q : Nat) : Int := bs.getD q 0 + 256 * bs.getD (q + 1) 0
theorem take16 (bs : List Int) (q : Nat) (h : 0 ≤ bs.getD q 0 ∧ bs.getD q 0 ≤ 255) (h' : 0 ≤ bs.getD (q + 1) 0 ∧ bs.getD (q + 1) 0 ≤ 255) : takeVal bs (8 * q) 16 = le16 bs q := by
  rw [show (16 : Nat) = 8 + 8 by rfl, takeVal_add, take8 bs q h, show 8 * q + 8 = 8 * (q + 1) by omega, take8 bs (q + 1) h']
  unfold le16
  omega
theorem take1 (bs : List Int) (q : Nat) : takeVal bs (8 * q) 1 = bs.getD q 0 % 2 := by
  simp only [takeVal, bit_of bs q _ (show 0 < 8 by omega), Int.zero_add]
  omega
theorem take2 (bs : List Int) (q : Nat) : takeVal bs (8 * q + 1) 2 = bs.getD q 0 / 2 % 4 := by
  simp only [takeVal, Nat.add_assoc, bit_of bs q _ (show 1 + 0 < 8 by omega), bit_of bs q _ (show 1 + 1 < 8 by omega), Int.zero_add]
  omega
/-- what comes of stored blocks: the bytes, and how many were begun; an error; blocks that are not stored -/
inductive Inf where
  | ok (out : List Int) (n : Nat)
  | err (k : Int)
  | no
def inf : Nat → List Int → Nat → List Int → Int → Inf
  | 0, _, _, _, _ => .no
  | f + 1, bs, q, out, lim =>
    if bs.length < q + 1 then .err 2
    else if bs.getD q 0 / 2 % 4 ≠ 0 then .no
    else if bs.length < q + 3 then .err 2
    else if bs.length < q + 5 then .err 2
    else if le16 bs (q + 3) ≠ 65535 - le16 bs (q + 1) then .no
    else if lim - out.length < le16 bs (q + 1) then .err 8
    else if bs.length < q + 5 + (le16 bs (q + 1)).toNat then .err 2
    else if bs.getD q 0 % 2 = 1 then .ok (out ++ (bs.drop (q + 5)).take (le16 bs (q + 1)).toNat) (q + 5 + (le16 bs (q + 1)).toNat)
    else inf f bs (q + 5 + (le16 bs (q + 1)).toNat) (out ++ (bs.drop (q + 5)).take (le16 bs (q + 1)).toNat) lim
/-- a stored block's head -/
def hdr (l n : Nat) : List Int := [(l : Int), (n % 256 : Nat), (n / 256 : Nat), 255 - (n % 256 : Nat), 255 - (n / 256 : Nat)]
theorem getD_app (a b : List Int) (k : Nat) (d : Int) : (a ++ b).getD (a.length + k) d = b.getD k d := by
  simp [List.getD, List.getElem?_append_right]
theorem inf_one (f : Nat) (pre p more : List Int) (l n : Nat) (out : List Int) (lim : Int) (hl : l ≤ 1) (hn : n ≤ 65535) (hp : p.length = n) :
    inf (f + 1) (pre ++ (hdr l n ++ (p ++ more))) pre.length out lim = if lim - out.length < n then .err 8 else if l = 1 then .ok (out ++ p) (pre.length + 5 + n) else inf f (pre ++ (hdr l n ++ (p ++ more))) (pre.length + 5 + n) (out ++ p) lim := by
  obtain ⟨bs, hbs⟩ : ∃ bs, bs = pre ++ (hdr l n ++ (p ++ more)) := ⟨_, rfl⟩
  have g : ∀ k, bs.getD (pre.length + k) 0 = (hdr l n ++ (p ++ more)).getD k 0 := fun k => by rw [hbs]; exact getD_app _ _ _ _
  have hlen : bs.length = pre.length + 5 + n + more.length := by rw [hbs]; simp [hdr, hp]; omega
  have g0 : bs.getD pre.length 0 = l := by have := g 0; simpa [hdr] using this
  have g1 : bs.getD (pre.length + 1) 0 = (n % 256 : Nat) := by rw [g]; simp [hdr]
  have g2 : bs.getD (pre.length + 2) 0 = (n / 256 : Nat) := by rw [g]; simp [hdr]
  have g3 : bs.getD (pre.length + 3) 0 = 255 - (n % 256 : Nat) := by rw [g]; simp [hdr]
  have g4 : bs.getD (pre.length + 4) 0 = 255 - (n / 256 : Nat) := by rw [g]; simp [hdr]
  have e1 : le16 bs (pre.length + 1) = n := by unfold le16; rw [Nat.add_assoc, g1, g2]; omega
  have e3 : le16 bs (pre.length + 3) = 65535 - (n : Int) := by unfold le16; rw [Nat.add_assoc, g3, g4]; omega
  have hd : (bs.drop (pre.length + 5)).take n = p := by
    rw [hbs, ← List.drop_drop, List.drop_left]
    show ((hdr l n ++ (p ++ more)).drop 5).take n = p
    have : (hdr l n).length = 5 := rfl
    rw [← this, List.drop_left, ← hp, List.take_left]
  rw [← hbs, inf, if_neg (by omega), if_neg (by rw [g0]; omega), if_neg (by omega), if_neg (by omega), if_neg (by rw [e1, e3]; simp), e1]
  by_cases h : lim - out.length < n
  · rw [if_pos h, if_pos h]
  · rw [if_neg h, if_neg h, if_neg (by simp; omega), Int.toNat_natCast, hd, g0]
    by_cases h1 : l = 1
    · rw [if_pos h1, if_pos (by omega)]
    · rw [if_neg h1, if_neg (by omega)]
theorem inf_cut (f : Nat) (pre p : List Int) (l n k : Nat) (out : List Int) (lim : Int) (hl : l ≤ 1) (hn : n ≤ 65535) (hp : p.length = n) (hk : k < 5 + n) (hlim : (n : Int) ≤ lim - out.length) :
    inf (f + 1) (pre ++ (hdr l n ++ p).take k) pre.length out lim = .err 2 := by
  obtain ⟨bs, hbs⟩ : ∃ bs, bs = pre ++ (hdr l n ++ p).take k := ⟨_, rfl⟩
  have g : ∀ i, i < k → bs.getD (pre.length + i) 0 = (hdr l n ++ p).getD i 0 := fun i hi => by
    rw [hbs, getD_app]
    simp [List.getD, List.getElem?_take, hi]
  have hlen : bs.length = pre.length + k := by rw [hbs]; simp [hdr, hp]; omega
  rw [← hbs, inf]
  by_cases c1 : bs.length < pre.length + 1
  · rw [if_pos c1]
  have g0 : bs.getD pre.length 0 = l := by have := g 0 (by omega); simpa [hdr] using this
  rw [if_neg c1, if_neg (by rw [g0]; omega)]
  by_cases c2 : bs.length < pre.length + 3
  · rw [if_pos c2]
  rw [if_neg c2]
  by_cases c3 : bs.length < pre.length + 5
  · rw [if_pos c3]
  have g1 : bs.getD (pre.length + 1) 0 = (n % 256 : Nat) := by rw [g 1 (by omega)]; simp [hdr]
  have g2 : bs.getD (pre.length + 2) 0 = (n / 256 : Nat) := by rw [g 2 (by omega)]; simp [hdr]
  have g3 : bs.getD (pre.length + 3) 0 = 255 - (n % 256 : Nat) := by rw [g 3 (by omega)]; simp [hdr]
  have g4 : bs.getD (pre.length + 4) 0 = 255 - (n / 256 : Nat) := by rw [g 4 (by omega)]; simp [hdr]
  have e1 : le16 bs (pre.length + 1) = n := by unfold le16; rw [Nat.add_assoc, g1, g2]; omega
  have e3 : le16 bs (pre.length + 3) = 65535 - (n : Int) := by unfold le16; rw [Nat.add_assoc, g3, g4]; omega
  rw [if_neg c3, if_neg (by rw [e1, e3]; simp), e1, if_neg (by omega), if_pos (by simp; omega)]
end Hf
end Go.Proofs.Ytcjdeinmmokdgaa
