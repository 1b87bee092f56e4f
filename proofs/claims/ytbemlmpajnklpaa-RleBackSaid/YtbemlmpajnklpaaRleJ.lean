/- RleBack: plain. -/
import Derived.Test.YtbemlmpajnklpaaRleI
namespace Go.Proofs.Ytbemlmpajnklpaa
set_option linter.unusedSimpArgs false
set_option linter.unusedVariables false
open Go.RowKit
namespace Rl
/-- may it be a run? -/
def okR (x : Int) : Bool := decide (1 ≤ x) && decide (x ≤ 4294967295)
/-- may all be? -/
def rightB (l : List Int) : Bool := l.all okR
/-- the sum of those that may be -/
def sumR : List Int → Int
  | [] => 0
  | x :: t => sumR t + if okR x then x else 0
theorem rightB_iff (l : List Int) : rightB l = true ↔ May l := by
  unfold rightB May
  rw [List.all_eq_true]
  constructor
  · intro h x hx
    have := h x hx
    simp [okR] at this
    exact this
  · intro h x hx
    have := h x hx
    simp [okR]
    exact this
theorem rightB_snoc (l : List Int) (x : Int) : rightB (l ++ [x]) = (rightB l && okR x) := by simp [rightB]
theorem sumR_snoc (l : List Int) (x : Int) : sumR (l ++ [x]) = sumR l + if okR x then x else 0 := by
  induction l with
  | nil => simp [sumR]
  | cons y t ih => simp only [List.cons_append, sumR, ih]; omega
theorem sumR_range (l : List Int) : 0 ≤ sumR l ∧ sumR l ≤ 4294967295 * l.length := by
  induction l with
  | nil => simp [sumR]
  | cons x t ih =>
    simp only [sumR, List.length_cons]
    split
    · rename_i h
      simp [okR] at h
      push_cast
      omega
    · push_cast
      omega
theorem scan_ok (l : List Int) (h : May l) : ∀ left, sumR l ≤ left → scan left l = false := by
  induction l with
  | nil => intro left _; rfl
  | cons x t ih =>
    intro left hs
    have hx := h x (by simp)
    have hok : okR x = true := by simp [okR]; exact hx
    have ht := sumR_range t
    simp only [sumR, hok, if_true] at hs
    have hc : clamp x = x := by unfold clamp; rw [if_neg (by omega), if_neg (by omega)]
    simp only [scan, hc]
    have hb : badK left x = false := by unfold badK; rw [hc]; simp; omega
    rw [hb, Bool.false_or]
    exact ih (fun y hy => h y (by simp [hy])) _ (by omega)
/-- so long lasts so much -/
def upTo (rate N : Int) : Int := N * 3500000 / rate
theorem upTo_mono (rate : Int) (hr : 1 ≤ rate) {a b : Int} (h : a ≤ b) : upTo rate a ≤ upTo rate b := Int.ediv_le_ediv (by omega) (by omega)
/-- the sums of the first times -/
theorem steps_sum (rate : Int) (hr : 1 ≤ rate) : ∀ (l : List Int), May l → ∀ (n : Int) (k : Nat), k ≤ l.length → ((steps rate n (upTo rate n) l).take k).sum = upTo rate (n + sumR (l.take k)) - upTo rate n ∧ (∀ x ∈ (steps rate n (upTo rate n) l), 0 ≤ x)
  | [], _, n, k, hk => by
    obtain rfl : k = 0 := by simpa using hk
    exact ⟨by simp [steps, sumR], fun x hx => by simp [steps] at hx⟩
  | x :: t, h, n, k, hk => by
    have hx := h x (by simp)
    have hok : okR x = true := by simp [okR]; exact hx
    have e : (n + x) * 3500000 / rate = upTo rate (n + x) := rfl
    have hm : May t := fun y hy => h y (by simp [hy])
    have hmono := upTo_mono rate hr (show n ≤ n + x by omega)
    have ih0 := steps_sum rate hr t hm (n + x) 0 (Nat.zero_le _)
    refine ⟨?_, ?_⟩
    · cases k with
      | zero => simp [sumR]
      | succ k =>
        have ih := (steps_sum rate hr t hm (n + x) k (by simpa using hk)).1
        simp only [steps, List.take_succ_cons, List.sum_cons, sumR, hok, if_true, e]
        rw [ih, show n + (sumR (t.take k) + x) = n + x + sumR (t.take k) by omega]
        omega
    · intro y hy
      simp only [steps, List.mem_cons, e] at hy
      rcases hy with rfl | hy
      · omega
      · exact ih0.2 y hy
theorem sumR_take_le (l : List Int) (k : Nat) : sumR (l.take k) ≤ sumR l := by
  induction l generalizing k with
  | nil => simp [sumR]
  | cons x t ih =>
    cases k with
    | zero => have := (sumR_range (x :: t)).1; simpa [sumR] using this
    | succ k => have := ih k; simp only [List.take_succ_cons, sumR]; omega
/-- the sums of the first times stay small -/
theorem steps_part (rate : Int) (hr : 1 ≤ rate) (l : List Int) (h : May l) (hs : sumR l ≤ 274877906944) (k : Nat) (hk : k ≤ l.length) :
    ((steps rate 0 0 l).take k).sum = upTo rate (sumR (l.take k)) ∧ 0 ≤ ((steps rate 0 0 l).take k).sum ∧ ((steps rate 0 0 l).take k).sum ≤ 962072674304000000 := by
  have h0 : upTo rate 0 = 0 := by simp [upTo]
  have hq := (steps_sum rate hr l h 0 k hk).1
  rw [h0] at hq
  have e : ((steps rate 0 0 l).take k).sum = upTo rate (sumR (l.take k)) := by rw [hq]; simp
  have r0 := (sumR_range (l.take k)).1
  have r1 := sumR_take_le l k
  have r2 : 0 ≤ upTo rate (sumR (l.take k)) := Int.ediv_nonneg (by omega) (by omega)
  have r3 : upTo rate (sumR (l.take k)) ≤ sumR (l.take k) * 3500000 := Int.ediv_le_self _ (by omega)
  exact ⟨e, by rw [e]; exact r2, by rw [e]; omega⟩
theorem steps_pos (rate : Int) (hr : 1 ≤ rate) (l : List Int) (h : May l) : ∀ x ∈ steps rate 0 0 l, 0 ≤ x := by
  have h0 : upTo rate 0 = 0 := by simp [upTo]
  have := (steps_sum rate hr l h 0 0 (Nat.zero_le _)).2
  rwa [h0] at this
theorem sum_snoc (a : List Int) (x : Int) : (a ++ [x]).sum = a.sum + x := by
  induction a with
  | nil => simp
  | cons y t ih => rw [List.cons_append, List.sum_cons, ih, List.sum_cons]; omega
end Rl
end Go.Proofs.Ytbemlmpajnklpaa
