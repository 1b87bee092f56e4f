/- Plain laws: the codes as texts, and which symbol bits begin with. -/
import Derived.Test.YtoejmjhfecppcaaHuffH
namespace Go.Proofs.Ytoejmjhfecppcaa
open Go.RowKit
namespace Hf
/-- k binary digits of x, the highest first -/
def text : Nat → Int → List UInt8
  | 0, _ => []
  | k + 1, x => text k (x / 2) ++ [if x % 2 = 1 then 49 else 48]
theorem text_len (k : Nat) (x : Int) : (text k x).length = k := by
  induction k generalizing x with
  | zero => rfl
  | succ k ih => simp [text, ih]
theorem ediv_pow_succ (x : Int) (k : Nat) : x / 2 / 2 ^ k = x / 2 ^ (k + 1) := by
  rw [Int.pow_succ, Int.mul_comm (2 ^ k) 2, Int.ediv_ediv_of_nonneg (by omega)]
theorem text_cons (k : Nat) (x : Int) : text (k + 1) x = (if (x / 2 ^ k) % 2 = 1 then 49 else 48) :: text k x := by
  induction k generalizing x with
  | zero => simp [text]
  | succ k ih =>
    have h : text (k + 1) x = text k (x / 2) ++ [if x % 2 = 1 then 49 else 48] := rfl
    rw [h, text, ih (x / 2), ediv_pow_succ, List.cons_append]
theorem text_take (n k : Nat) (x : Int) : (text (n + k) x).take n = text n (x / 2 ^ k) := by
  induction k generalizing x with
  | zero => rw [Nat.add_zero, List.take_of_length_le (by rw [text_len]; omega)]; simp
  | succ k ih =>
    rw [← Nat.add_assoc, text, List.take_append_of_le_length (by rw [text_len]; omega), ih, ediv_pow_succ]
theorem text_inj (k : Nat) (x y : Int) (hx : 0 ≤ x) (hx2 : x < 2 ^ k) (hy : 0 ≤ y) (hy2 : y < 2 ^ k) (h : text k x = text k y) : x = y := by
  induction k generalizing x y with
  | zero => simp at hx2 hy2; omega
  | succ k ih =>
    rw [text, text] at h
    have h2 := List.append_inj h (by rw [text_len, text_len])
    rw [Int.pow_succ] at hx2 hy2
    have h3 := ih (x / 2) (y / 2) (by omega) (by omega) (by omega) (by omega) h2.1
    have h4 := h2.2
    have h5 : (x % 2 = 1) = (y % 2 = 1) := by
      by_cases a : x % 2 = 1 <;> by_cases b : y % 2 = 1 <;> simp [a, b] at h4 ⊢
    by_cases a : x % 2 = 1
    · have b : y % 2 = 1 := by rw [← h5]; exact a
      omega
    · have b : ¬ y % 2 = 1 := by rw [← h5]; exact a
      omega
/-- the bits from place p on, as a text -/
def bitStr (bs : List Int) (p : Nat) : List UInt8 := (List.range (8 * bs.length - p)).map fun i => if bitAt bs (p + i) = 1 then 49 else 48
theorem bitStr_len (bs : List Int) (p : Nat) : (bitStr bs p).length = 8 * bs.length - p := by simp [bitStr]
theorem bitStr_drop (bs : List Int) (p n : Nat) : (bitStr bs p).drop n = bitStr bs (p + n) := by
  apply List.ext_getElem
  · simp [bitStr_len]; omega
  · intro j h1 h2
    simp only [bitStr, List.getElem_drop, List.getElem_map, List.getElem_range, Nat.add_assoc]
theorem bitStr_take (bs : List Int) (p n : Nat) (h : p + n ≤ 8 * bs.length) : (bitStr bs p).take n = text n (val bs p n) := by
  induction n with
  | zero => rfl
  | succ n ih =>
    have hb := bitAt_range bs (p + n)
    rw [List.take_add_one, ih (by omega), text, val, show (2 * val bs p n + bitAt bs (p + n)) / 2 = val bs p n from by omega]
    congr 1
    rw [List.getElem?_eq_getElem (by rw [bitStr_len]; omega)]
    simp only [bitStr, List.getElem_map, List.getElem_range, Option.toList_some]
    by_cases c : bitAt bs (p + n) = 1
    · rw [if_pos c, if_pos (by omega)]
    · rw [if_neg c, if_neg (by omega)]
/-- the codes as texts -/
def textOf (l : List Int) (i : Nat) : List UInt8 := text (l.getD i 0).toNat (codeOf l (l.take i) (l.getD i 0))
def texts (l : List Int) : List (List UInt8) := (List.range l.length).map (textOf l)
/-- the reference's search -/
def refGo (T : List (List UInt8)) (B : List UInt8) : Nat → Nat → Int × Nat × Int
  | 0, _ => (0, B.length, 2)
  | f + 1, n =>
    match T.findIdx? (fun t => t != [] && t == B.take n) with
    | some i => (i, n, 0)
    | none => if T.any (fun t => decide (n < t.length) && t.take n == B.take n) then refGo T B f (n + 1) else (0, n, 4)
def refNext (T : List (List UInt8)) (B : List UInt8) : Int × Nat × Int := refGo T B (B.length + 1) 0

theorem start_pow (l : List Int) (h : 0 ≤ room l 15) (k : Nat) (h0 : 0 < k) (h1 : k ≤ 15) : start l k + cnt l k ≤ 2 ^ k := by
  have := start_le l h (k - 1) (by omega)
  rwa [show k - 1 + 1 = k from by omega] at this
/-- a longer code begins behind all shorter ones -/
theorem start_far (l : List Int) (k m : Nat) (h0 : 0 < k) : (start l k + cnt l k) * 2 ^ (m + 1) ≤ start l (k + (m + 1)) := by
  induction m with
  | zero => rw [Nat.zero_add, start_succ l k (by omega)]; simp; omega
  | succ m ih =>
    have := cnt_nonneg l (k + (m + 1))
    rw [show k + (m + 1 + 1) = (k + (m + 1)) + 1 from by omega, start_succ l _ (by omega), Int.pow_succ, ← Int.mul_assoc]
    omega
theorem cnt_take_le (l : List Int) (i k : Nat) : cnt (l.take i) k ≤ cnt l k := by
  have h := List.take_append_drop i l
  have : cnt l k = cnt (l.take i) k + cnt (l.drop i) k := by
    conv => lhs; rw [← h]
    unfold cnt; rw [List.filter_append, List.length_append]; omega
  have := cnt_nonneg (l.drop i) k
  omega
theorem cnt_take_lt (l : List Int) (i j k : Nat) (hij : i < j) (hi : i < l.length) (hk : l.getD i 0 = k) : cnt (l.take i) k < cnt (l.take j) k := by
  have h1 : cnt (l.take (i + 1)) k = cnt (l.take i) k + 1 := by
    rw [List.take_add_one, List.getElem?_eq_getElem hi]
    have hk2 : l[i] = (k : Int) := by simpa [List.getD, List.getElem?_eq_getElem hi] using hk
    simp only [Option.toList_some]
    rw [cnt_snoc, if_pos hk2]
  have h2 := cnt_take_le (l.take j) (i + 1) k
  rw [List.take_take, Nat.min_eq_left (by omega)] at h2
  omega
theorem symsAt_len' (l : List Int) (k n : Nat) (hn : n ≤ l.length) : ((symsAt l k n).length : Int) = cnt (l.take n) k := by
  induction n with
  | zero => rfl
  | succ n ih =>
    rw [List.take_add_one, List.getElem?_eq_getElem (by omega)]
    have hg : l.getD n 0 = l[n] := by simp [List.getD, List.getElem?_eq_getElem (show n < l.length by omega)]
    simp only [Option.toList_some]
    rw [cnt_snoc]
    by_cases h : l.getD n 0 = (k : Int)
    · rw [symsAt_hit _ _ _ h, if_pos (by rw [← hg]; exact h), List.length_append]; have := ih (by omega); simp; omega
    · rw [symsAt_miss _ _ _ h, if_neg (by rw [← hg]; exact h)]; have := ih (by omega); omega
theorem symsAt_get (l : List Int) (k n : Nat) (hn : n ≤ l.length) (r : Nat) (x : Int) (hx : (symsAt l k n)[r]? = some x) :
    ∃ i : Nat, x = i ∧ i < n ∧ l.getD i 0 = k ∧ cnt (l.take i) k = r := by
  induction n with
  | zero => simp [symsAt_zero] at hx
  | succ n ih =>
    by_cases h : l.getD n 0 = (k : Int)
    · rw [symsAt_hit _ _ _ h, List.getElem?_append] at hx
      split at hx
      · obtain ⟨i, h1, h2, h3⟩ := ih (by omega) hx
        exact ⟨i, h1, by omega, h3⟩
      · rename_i hge
        have hr : r = (symsAt l k n).length := by
          have := (List.getElem?_eq_some_iff.1 hx).1
          simp at this; omega
        subst hr
        simp at hx
        exact ⟨n, hx.symm, by omega, h, (symsAt_len' l k n (by omega)).symm⟩
    · rw [symsAt_miss _ _ _ h] at hx
      obtain ⟨i, h1, h2, h3⟩ := ih (by omega) hx
      exact ⟨i, h1, by omega, h3⟩
end Hf
end Go.Proofs.Ytoejmjhfecppcaa
