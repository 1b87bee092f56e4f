/- adler: the sum of bytes: plain. -/
import Derived.Test.YtbemlmpajnklpaaMemE
namespace Go.Proofs.Ytbemlmpajnklpaa
set_option linter.unusedSimpArgs false
set_option linter.unusedVariables false
open Go.RowKit
namespace Ad
/-- the two numbers, not reduced -/
def run (a b : Int) : List Int → Int × Int
  | [] => (a, b)
  | c :: t => run (a + c) (b + (a + c)) t
theorem run_app (a b : Int) (l m : List Int) : run a b (l ++ m) = run (run a b l).1 (run a b l).2 m := by
  induction l generalizing a b with
  | nil => rfl
  | cons c t ih => exact ih _ _
theorem run_snoc (a b : Int) (l : List Int) (c : Int) : run a b (l ++ [c]) = ((run a b l).1 + c, (run a b l).2 + ((run a b l).1 + c)) := by rw [run_app]; rfl
theorem run_mod (a b a' b' : Int) (l : List Int) (ha : (a - a') % 65521 = 0) (hb : (b - b') % 65521 = 0) : ((run a b l).1 - (run a' b' l).1) % 65521 = 0 ∧ ((run a b l).2 - (run a' b' l).2) % 65521 = 0 := by
  induction l generalizing a b a' b' with
  | nil => exact ⟨ha, hb⟩
  | cons c t ih => exact ih _ _ _ _ (by omega) (by omega)
theorem run_fst (a b : Int) (l : List Int) : (run a b l).1 = a + l.sum := by
  induction l generalizing a b with
  | nil => simp [run]
  | cons c t ih => rw [run, ih]; simp; omega
def tri : Nat → Nat
  | 0 => 0
  | n + 1 => tri n + (n + 1)
theorem tri_two (n : Nat) : 2 * tri n = n * (n + 1) := by
  induction n with
  | zero => rfl
  | succ n ih => rw [tri, Nat.mul_add, ih, ← Nat.add_mul, Nat.mul_comm]
theorem tri_mono {m n : Nat} (h : m ≤ n) : tri m ≤ tri n := by
  induction n with
  | zero => obtain rfl : m = 0 := by omega
            exact Nat.le_refl _
  | succ n ih =>
    rcases Nat.lt_or_ge m (n + 1) with h1 | h1
    · have := ih (by omega)
      rw [tri]; omega
    · obtain rfl : m = n + 1 := by omega
      exact Nat.le_refl _
theorem tri_top {n : Nat} (h : n ≤ 5552) : tri n ≤ 15415128 := by
  have h1 := tri_mono h
  have h2 := tri_two 5552
  have h3 : (5552 : Nat) * (5552 + 1) = 30830256 := by decide
  rw [h3] at h2
  omega
/-- the numbers in a piece stay small -/
theorem run_bound (a b : Int) (l : List Int) (a0 : 0 ≤ a) (a1 : a ≤ 65520) (b0 : 0 ≤ b) (b1 : b ≤ 65520) (hl : ∀ x ∈ l, 0 ≤ x ∧ x ≤ 255) :
    0 ≤ (run a b l).1 ∧ (run a b l).1 ≤ 65520 + 255 * l.length ∧ 0 ≤ (run a b l).2 ∧ (run a b l).2 ≤ 65520 + 65520 * l.length + 255 * tri l.length := by
  have key : ∀ k, k ≤ l.length → 0 ≤ (run a b (l.take k)).1 ∧ (run a b (l.take k)).1 ≤ 65520 + 255 * k ∧ 0 ≤ (run a b (l.take k)).2 ∧ (run a b (l.take k)).2 ≤ 65520 + 65520 * k + 255 * tri k := by
    intro k
    induction k with
    | zero => intro _; simp [run, tri]; omega
    | succ k ih =>
      intro hk
      obtain ⟨h1, h2, h3, h4⟩ := ih (by omega)
      have hx := hl _ (List.getElem_mem (show k < l.length by omega))
      rw [List.take_succ_eq_append_getElem (by omega), run_snoc]
      simp only [tri]
      push_cast
      refine ⟨by omega, by omega, by omega, by omega⟩
  have := key l.length (Nat.le_refl _)
  rwa [List.take_of_length_le (Nat.le_refl _)] at this
theorem run_fit (a b : Int) (l : List Int) (a0 : 0 ≤ a) (a1 : a ≤ 65520) (b0 : 0 ≤ b) (b1 : b ≤ 65520) (hl : ∀ x ∈ l, 0 ≤ x ∧ x ≤ 255) (hn : l.length ≤ 5552) :
    0 ≤ (run a b l).1 ∧ (run a b l).1 ≤ 4294967295 ∧ 0 ≤ (run a b l).2 ∧ (run a b l).2 ≤ 4294967295 := by
  obtain ⟨h1, h2, h3, h4⟩ := run_bound a b l a0 a1 b0 b1 hl
  have := tri_top hn
  exact ⟨h1, by omega, h3, by omega⟩
def lo (l : List Int) : Int := (run 1 0 l).1 % 65521
def hi (l : List Int) : Int := (run 1 0 l).2 % 65521
/-- the sum of bytes -/
def of (l : List Int) : Int := hi l * 65536 + lo l
theorem lo_range (l : List Int) : 0 ≤ lo l ∧ lo l ≤ 65520 := by unfold lo; omega
theorem hi_range (l : List Int) : 0 ≤ hi l ∧ hi l ≤ 65520 := by unfold hi; omega
theorem of_range (l : List Int) : 0 ≤ of l ∧ of l ≤ 4294967295 := by have := lo_range l; have := hi_range l; unfold of; omega
/-- a piece more -/
theorem piece (l m : List Int) : (run (lo l) (hi l) m).1 % 65521 = lo (l ++ m) ∧ (run (lo l) (hi l) m).2 % 65521 = hi (l ++ m) := by
  have h := run_mod (lo l) (hi l) (run 1 0 l).1 (run 1 0 l).2 m (by unfold lo; omega) (by unfold hi; omega)
  rw [← run_app] at h
  refine ⟨?_, ?_⟩
  · show _ = (run 1 0 (l ++ m)).1 % 65521
    omega
  · show _ = (run 1 0 (l ++ m)).2 % 65521
    omega
end Ad
end Go.Proofs.Ytbemlmpajnklpaa
