/- The contract of huff.Codes. -/
import Derived.Test.YtcjdeinmmokdgaaHuffC
namespace Go.Proofs.Ytcjdeinmmokdgaa
set_option linter.unusedSimpArgs false
set_option linter.unusedVariables false
open Go.RowKit

/-- n zeros -/
def zeros (n : Nat) : List Value := List.replicate n (.int .i64 0)
theorem zeros_len (n : Nat) : (zeros n).length = n := by simp [zeros]
theorem infoInt : (Try.prog.info? 3).map (fun i => (i.zero, i.size, i.bytes)) = some (some (.int .i64 0), 1, 8) := by kernel_rfl
theorem mkInts (n : Nat) (hn : n ≤ 35184372088832) (u : World) : (Instr.makeSlice 51 (.int .i64 (n : Int)) (.int .i64 (n : Int))).run Try.prog u =
    .ok (.slice (some ⟨u.heap.size, 0, none⟩) n n) (u.alloc (.cells (zeros n).toArray 3)) := by
  obtain ⟨i0, hi, hz0, hz1, hz2⟩ := info_parts infoInt
  have h := run_make (P := Try.prog) u 51 3 i0 (.int .i64 0) Try.underlying51 hi hz0 .i64 .i64 (n : Int) (n : Int) (by omega) (Int.le_refl _) (by rw [hz2]; omega) (by omega)
  have e : madeCells #[Value.int .i64 0] n = (zeros n).toArray := by
    apply Array.ext
    · simp [madeCells, zeros]
    · intro j h1 h2
      simp [madeCells, zeros, Nat.mod_one]
  have e2 : (n : Int).toNat = n := by omega
  rw [hz1, Nat.mul_one, e2, show (Value.int .i64 0).cells = #[Value.int .i64 0] from rfl, e] at h
  exact h

namespace Hf
/-- the first code of length k -/
def start (l : List Int) : Nat → Int
  | 0 => 0
  | k + 1 => 2 * (start l k + if k = 0 then 0 else cnt l k)
theorem start_succ (l : List Int) (k : Nat) (h : k ≠ 0) : start l (k + 1) = 2 * (start l k + cnt l k) := by simp only [start, if_neg h]
theorem start_nonneg (l : List Int) (k : Nat) : 0 ≤ start l k := by
  induction k with
  | zero => simp [start]
  | succ k ih => have := cnt_nonneg l k; simp only [start]; split <;> omega
theorem room_start (l : List Int) (k : Nat) : room l (k + 1) = 2 ^ (k + 1) - start l (k + 1) - cnt l (k + 1) := by
  induction k with
  | zero => simp [room, start]
  | succ k ih =>
    rw [start_succ l (k + 1) (by omega), room, ih, Int.pow_succ 2 (k + 1)]
    omega
theorem start_le (l : List Int) (h : 0 ≤ room l 15) (k : Nat) (hk : k < 15) : start l (k + 1) + cnt l (k + 1) ≤ 2 ^ (k + 1) := by
  have h1 := room_start l k
  have h2 : 0 ≤ room l (k + 1) := by
    rcases Int.lt_or_le (room l (k + 1)) 0 with h3 | h3
    · have := room_neg l (k + 1) (14 - k) h3
      rw [show k + 1 + (14 - k) = 15 from by omega] at this
      omega
    · exact h3
  omega
theorem err_room {l : List Int} (h : err l = 0) : 0 ≤ room l 15 ∧ l.length ≤ 320 ∧ inRange l := by
  unfold err at h
  by_cases h1 : 320 < l.length
  · rw [if_pos h1] at h; omega
  · rw [if_neg h1] at h
    by_cases h2 : inRange l
    · rw [if_neg (fun x => x h2)] at h
      by_cases h3 : room l 15 < 0
      · rw [if_pos h3] at h; omega
      · exact ⟨by omega, by omega, h2⟩
    · rw [if_pos h2] at h; omega
/-- the first codes up to length k, the others nought -/
def starts (l : List Int) (k : Nat) : List Value := (List.range 16).map fun j => Value.int .i64 (if j ≤ k then start l j else 0)
theorem starts_get (l : List Int) (k j : Nat) (h : j < 16) : (starts l k)[j]? = some (.int .i64 (if j ≤ k then start l j else 0)) := by simp [starts, h]
theorem starts_set (l : List Int) (k : Nat) (h : k + 1 < 16) : (starts l k).set (k + 1) (.int .i64 (start l (k + 1))) = starts l (k + 1) := by
  apply List.ext_getElem?
  intro j
  by_cases hj : j < 16
  · rw [starts_get _ _ _ hj, List.getElem?_set]
    by_cases e : k + 1 = j
    · subst e; simp [starts]; omega
    · rw [if_neg e, starts_get _ _ _ hj]
      by_cases h2 : j ≤ k
      · rw [if_pos h2, if_pos (by omega)]
      · rw [if_neg h2, if_neg (by omega)]
  · rw [List.getElem?_eq_none (by simp [starts]; omega), List.getElem?_eq_none (by simp [starts]; omega)]
/-- the next code of each length behind the lengths p -/
def nexts (l p : List Int) : List Value := (List.range 16).map fun j => Value.int .i64 (start l j + if j = 0 then 0 else cnt p j)
theorem nexts_nil (l : List Int) : starts l 15 = nexts l [] := by
  unfold starts nexts
  apply List.map_congr_left
  intro j hj
  have : j < 16 := by simpa using hj
  rw [if_pos (by omega)]; simp [cnt_nil]
theorem nexts_get (l p : List Int) (j : Nat) (h : j < 16) (h0 : 0 < j) : (nexts l p)[j]? = some (.int .i64 (start l j + cnt p j)) := by
  have : ¬ j = 0 := by omega
  simp [nexts, h, this]
theorem nexts_set (l p : List Int) (m : Nat) (h : m < 16) (h0 : 0 < m) : (nexts l p).set m (.int .i64 (start l m + cnt p m + 1)) = nexts l (p ++ [(m : Int)]) := by
  apply List.ext_getElem?
  intro j
  by_cases hj : j < 16
  · rw [List.getElem?_set]
    by_cases e : m = j
    · subst e; have : ¬ m = 0 := by omega
      simp [nexts, h, this, cnt_snoc]; omega
    · rw [if_neg e]
      have : ¬ ((m : Int) = (j : Int)) := by omega
      simp [nexts, hj, cnt_snoc, this]
  · rw [List.getElem?_eq_none (by simp [nexts]; omega), List.getElem?_eq_none (by simp [nexts]; omega)]
theorem nexts_zero (l p : List Int) : nexts l (p ++ [0]) = nexts l p := by
  unfold nexts
  apply List.map_congr_left
  intro j _
  by_cases h : j = 0
  · simp [h]
  · have : ¬ ((0 : Int) = (j : Int)) := by omega
    simp [h, cnt_snoc, this]
/-- the code of the symbol of length x behind the lengths p -/
def codeOf (l p : List Int) (x : Int) : Int := if x ≤ 0 then 0 else start l x.toNat + cnt p x.toNat
/-- the codes of the first k symbols -/
def codesTo (l : List Int) (k : Nat) : List Int := (List.range k).map fun i => codeOf l (l.take i) (l.getD i 0)
theorem codesTo_succ (l : List Int) (k : Nat) : codesTo l (k + 1) = codesTo l k ++ [codeOf l (l.take k) (l.getD k 0)] := by
  simp [codesTo, List.range_succ]
theorem codesTo_len (l : List Int) (k : Nat) : (codesTo l k).length = k := by simp [codesTo]
/-- the codes as far as k, behind them noughts up to n -/
def outTo (l : List Int) (n k : Nat) : List Value := (codesTo l k).map (Value.int .i64) ++ zeros (n - k)
theorem outTo_zero (l : List Int) (n : Nat) : outTo l n 0 = zeros n := by simp [outTo, codesTo]
theorem outTo_end (l : List Int) (n : Nat) : outTo l n n = (codesTo l n).map (Value.int .i64) := by simp [outTo, zeros]
theorem outTo_set (l : List Int) (n k : Nat) (h : k < n) : (outTo l n k).set k (.int .i64 (codeOf l (l.take k) (l.getD k 0))) = outTo l n (k + 1) := by
  unfold outTo
  rw [List.set_append_right _ _ (by simp [codesTo_len]), codesTo_succ]
  have : n - k = (n - (k + 1)) + 1 := by omega
  rw [this]
  simp [codesTo_len, zeros, List.replicate_succ]
theorem outTo_same (l : List Int) (n k : Nat) (h : k < n) (h0 : l.getD k 0 = 0) : outTo l n k = outTo l n (k + 1) := by
  rw [← outTo_set l n k h, h0]
  unfold outTo
  rw [List.set_append_right _ _ (by simp [codesTo_len])]
  have : n - k = (n - (k + 1)) + 1 := by omega
  rw [this]
  simp [codesTo_len, zeros, List.replicate_succ, codeOf]
theorem outTo_len (l : List Int) (n k : Nat) (h : k ≤ n) : (outTo l n k).length = n := by simp [outTo, codesTo_len, zeros]; omega
/-- the code of each symbol -/
def codeList (l : List Int) : List Int := codesTo l l.length
end Hf
end Go.Proofs.Ytcjdeinmmokdgaa
