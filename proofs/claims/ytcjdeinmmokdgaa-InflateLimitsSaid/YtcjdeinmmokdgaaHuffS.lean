/- Plain functions on lists of numbers: what package huff computes. -/
import Derived.WalkKit
namespace Go.Proofs.Ytcjdeinmmokdgaa
set_option linter.unusedSimpArgs false
set_option linter.unusedVariables false
namespace Hf

/-- how many of the lengths are j -/
def cnt (l : List Int) (j : Nat) : Int := ((l.filter fun x => x == (j : Int)).length : Nat)
theorem cnt_nil (j : Nat) : cnt [] j = 0 := rfl
theorem cnt_nonneg (l : List Int) (j : Nat) : 0 ≤ cnt l j := by unfold cnt; omega
theorem cnt_le (l : List Int) (j : Nat) : cnt l j ≤ l.length := by unfold cnt; have := List.length_filter_le (fun x : Int => x == (j : Int)) l; omega
theorem cnt_snoc (l : List Int) (x : Int) (j : Nat) : cnt (l ++ [x]) j = cnt l j + if x = j then 1 else 0 := by
  unfold cnt
  rw [List.filter_append, List.length_append]
  by_cases h : x = (j : Int) <;> simp [h]
/-- the first sixteen counts -/
def counts (l : List Int) : List Value := (List.range 16).map fun j => Value.int .i64 (cnt l j)
theorem counts_len (l : List Int) : (counts l).length = 16 := by simp [counts]
theorem counts_get (l : List Int) (j : Nat) (h : j < 16) : (counts l)[j]? = some (.int .i64 (cnt l j)) := by simp [counts, h]
theorem counts_set (l : List Int) (m : Nat) (h : m < 16) : (counts l).set m (.int .i64 (cnt l m + 1)) = counts (l ++ [(m : Int)]) := by
  apply List.ext_getElem?
  intro j
  by_cases hj : j < 16
  · rw [counts_get _ _ hj, cnt_snoc, List.getElem?_set]
    by_cases e : m = j
    · subst e; simp [counts_len, hj]
    · rw [if_neg e, counts_get _ _ hj]
      have : ¬ ((m : Int) = (j : Int)) := by omega
      simp [this]
  · rw [List.getElem?_eq_none (by simp [counts_len]; omega), List.getElem?_eq_none (by simp [counts_len]; omega)]
/-- what is left of the codes behind length j -/
def room (l : List Int) : Nat → Int
  | 0 => 1
  | j + 1 => 2 * room l j - cnt l (j + 1)
theorem room_le (l : List Int) (j : Nat) : room l j ≤ 2 ^ j := by
  induction j with
  | zero => simp [room]
  | succ j ih => have := cnt_nonneg l (j + 1); simp only [room]; rw [Int.pow_succ]; omega
def inRange (l : List Int) : Prop := ∀ x ∈ l, 0 ≤ x ∧ x ≤ 15
instance (l : List Int) : Decidable (inRange l) := by unfold inRange; infer_instance
def codes (l : List Int) : Int := l.length - cnt l 0
def err (l : List Int) : Int :=
  if 320 < l.length then 1 else if ¬ inRange l then 1 else if room l 15 < 0 then 4
  else if 0 < room l 15 ∧ 0 < codes l ∧ (1 < codes l ∨ cnt l 1 ≠ 1) then 4 else 0
theorem room_neg (l : List Int) (j k : Nat) (h : room l j < 0) : room l (j + k) < 0 := by
  induction k with
  | zero => exact h
  | succ k ih => have := cnt_nonneg l (j + k + 1); rw [← Nat.add_assoc]; simp only [room]; omega
end Hf
end Go.Proofs.Ytcjdeinmmokdgaa
