/- What is read hangs on its own bytes alone: the plain law. -/
import Derived.Test.YtjkakmmhbciilaaOpY
namespace Go.Proofs.Ytjkakmmhbciilaa
set_option linter.unusedSimpArgs false
set_option linter.unusedVariables false
open Go.RowKit
theorem mem_args : ∀ n < 256, Mi.memS (n : Nat) = true → Mi.argsS (n : Nat) ≤ 1 := by decide +kernel
theorem mem_args_of (c : Int) (h0 : 0 ≤ c) (h1 : c ≤ 255) (hm : Mi.memS c = true) : Mi.argsS c ≤ 1 := by
  obtain ⟨n, rfl⟩ := Int.eq_ofNat_of_zero_le h0
  exact mem_args n (by omega) hm
/-- what a reading of l from i0 on tells of all other bytes -/
structure Tells (l : List Int) (f : List Int → In × Bool) (R : In × Bool) (k m : Nat) : Prop where
  no : R.2 = false → R.1 = In.z ∧ l.length < m
  yes : R.2 = true → (k : Int) ≤ R.1.len ∧ R.1.len ≤ m ∧ R.1.len ≤ l.length
  same : R.2 = true → ∀ l' : List Int, R.1.len ≤ l'.length → (∀ j : Nat, (j : Int) < R.1.len → l'.getD j 0 = l.getD j 0) → f l' = R
  less : R.2 = true → ∀ l' : List Int, (l'.length : Int) < R.1.len → (∀ j : Nat, j < l'.length → l'.getD j 0 = l.getD j 0) → (f l').2 = false
theorem tail2_tells (l : List Int) (i : In) (k a m : Nat) (ha : a ≤ 2) (hm : k + a ≤ m) : Tells l (fun l => tail2 l i k a) (tail2 l i k a) k m := by
  by_cases h : l.length < k + a
  · have e : tail2 l i k a = (In.z, false) := by unfold tail2; rw [if_pos h]
    rw [e]
    exact ⟨fun _ => ⟨rfl, by omega⟩, (fun h => by cases h), (fun h => by cases h), (fun h => by cases h)⟩
  · have e : ∀ l : List Int, ¬ l.length < k + a → tail2 l i k a = ({ i with n := opnd l k a, len := ((k + a : Nat) : Int) }, true) := fun l h => by unfold tail2; rw [if_neg h]
    rw [e l h]
    refine ⟨(fun h => by cases h), fun _ => ⟨by show (k : Int) ≤ ((k + a : Nat) : Int); omega, by show ((k + a : Nat) : Int) ≤ m; omega, by show ((k + a : Nat) : Int) ≤ l.length; omega⟩, fun _ l' hl hj => ?_, fun _ l' hl hj => ?_⟩
    · have hl : ((k + a : Nat) : Int) ≤ l'.length := hl
      have hj : ∀ j : Nat, (j : Int) < ((k + a : Nat) : Int) → l'.getD j 0 = l.getD j 0 := hj
      show tail2 l' i k a = _
      rw [e l' (by omega)]
      have o : opnd l' k a = opnd l k a := by
        unfold opnd
        by_cases a0 : a = 0
        · rw [if_pos a0, if_pos a0]
        by_cases a1 : a = 1
        · rw [if_neg a0, if_pos a1, if_neg a0, if_pos a1, hj k (by omega)]
        · rw [if_neg a0, if_neg a1, if_neg a0, if_neg a1, hj k (by omega), hj (k + 1) (by omega)]
      rw [o]
    · have hl : (l'.length : Int) < ((k + a : Nat) : Int) := hl
      show (tail2 l' i k a).2 = false
      unfold tail2
      rw [if_pos (by omega)]
theorem tailS_tells (l : List Int) (i : In) (k a m : Nat) (ha : a ≤ 2) (hm : k + a ≤ m) (hm2 : i.set = 0 ∧ 0 < i.ix ∧ Mi.memS i.c = true → k + 1 + a ≤ m) : Tells l (fun l => tailS l i k a) (tailS l i k a) k m := by
  by_cases h : i.set = 0 ∧ 0 < i.ix ∧ Mi.memS i.c = true
  · have hm2 := hm2 h
    have e : ∀ l : List Int, tailS l i k a = if l.length ≤ k then (In.z, false) else tail2 l { i with d := l.getD k 0 } (k + 1) a := fun l => by unfold tailS; rw [if_pos h]
    by_cases h2 : l.length ≤ k
    · rw [e, if_pos h2]
      exact ⟨fun _ => ⟨rfl, by omega⟩, (fun h => by cases h), (fun h => by cases h), (fun h => by cases h)⟩
    · have t := tail2_tells l { i with d := l.getD k 0 } (k + 1) a m ha hm2
      rw [e, if_neg h2]
      obtain ⟨R, hR⟩ : ∃ R, R = tail2 l { i with d := l.getD k 0 } (k + 1) a := ⟨_, rfl⟩
      rw [← hR] at t ⊢
      refine ⟨t.no, fun h => ?_, fun h l' hl hj => ?_, fun h l' hl hj => ?_⟩
      · have := t.yes h
        exact ⟨by omega, this.2.1, this.2.2⟩
      · have y := t.yes h
        show tailS l' i k a = R
        rw [e, if_neg (by omega), hj k (by omega)]
        exact t.same h l' hl hj
      · have y := t.yes h
        show (tailS l' i k a).2 = false
        rw [e]
        by_cases q : l'.length ≤ k
        · rw [if_pos q]
        · rw [if_neg q, hj k (by omega)]
          exact t.less h l' hl hj
  · have e : ∀ l : List Int, tailS l i k a = tail2 l i k a := fun l => by unfold tailS; rw [if_neg h]
    have t := tail2_tells l i k a m ha hm
    simp only [e]
    exact t
theorem getD_lt {l l' : List Int} {n : Int} (h : ∀ j : Nat, (j : Int) < n → l'.getD j 0 = l.getD j 0) (j : Nat) (hj : (j : Int) < n) : l'.getD j 0 = l.getD j 0 := h j hj
theorem secondS_tells (l : List Int) (hl : 1 ≤ l.length) : Tells l (fun l => if l.length = 0 then (In.z, false) else secondS l) (secondS l) 2 4 := by
  by_cases h : l.length < 2
  · have e : secondS l = (In.z, false) := by unfold secondS; rw [if_pos h]
    rw [e]
    exact ⟨fun _ => ⟨rfl, by omega⟩, (fun h => by cases h), (fun h => by cases h), (fun h => by cases h)⟩
  by_cases h3 : l.getD 0 0 = 203
  · have e : ∀ l' : List Int, 2 ≤ l'.length → l'.getD 0 0 = l.getD 0 0 → l'.getD 1 0 = l.getD 1 0 → secondS l' = (⟨1, 0, l.getD 1 0, 0, 0, 2⟩, true) := fun l' g0 g1 g2 => by unfold secondS; rw [if_neg (by omega), g1, if_pos h3, g2]
    rw [e l (by omega) rfl rfl]
    refine ⟨(fun h => by cases h), fun _ => ⟨by show (2 : Int) ≤ 2; omega, by show (2 : Int) ≤ 4; omega, by show (2 : Int) ≤ _; omega⟩, fun _ l' hl hj => ?_, fun _ l' hl hj => ?_⟩
    · have hl : (2 : Int) ≤ l'.length := hl
      show (if l'.length = 0 then (In.z, false) else secondS l') = _
      rw [if_neg (by omega)]
      exact e l' (by omega) (hj 0 (by show (0 : Int) < 2; omega)) (hj 1 (by show (1 : Int) < 2; omega))
    · have hl : (l'.length : Int) < 2 := hl
      show (if l'.length = 0 then (In.z, false) else secondS l').2 = false
      by_cases q : l'.length = 0
      · rw [if_pos q]
      · rw [if_neg q]; unfold secondS; rw [if_pos (by omega)]
  · have a2 : (if l.getD 1 0 / 64 = 1 ∧ l.getD 1 0 % 8 = 3 then (2 : Int) else 0).toNat ≤ 2 := by split <;> decide
    have t := tailS_tells l ⟨2, 0, l.getD 1 0, 0, 0, 0⟩ 2 (if l.getD 1 0 / 64 = 1 ∧ l.getD 1 0 % 8 = 3 then (2 : Int) else 0).toNat 4 a2 (by omega) (fun h => by have := h.1; simp at this)
    have e : ∀ l' : List Int, 2 ≤ l'.length → l'.getD 0 0 = l.getD 0 0 → l'.getD 1 0 = l.getD 1 0 → secondS l' = tailS l' ⟨2, 0, l.getD 1 0, 0, 0, 0⟩ 2 (if l.getD 1 0 / 64 = 1 ∧ l.getD 1 0 % 8 = 3 then (2 : Int) else 0).toNat := fun l' g0 g1 g2 => by unfold secondS; rw [if_neg (by omega), g1, if_neg h3, g2]
    rw [e l (by omega) rfl rfl]
    refine ⟨t.no, t.yes, fun y l' hl hj => ?_, fun y l' hl hj => ?_⟩
    · have q := t.yes y
      show (if l'.length = 0 then (In.z, false) else secondS l') = _
      rw [if_neg (by omega), e l' (by omega) (hj 0 (by omega)) (hj 1 (by omega))]
      exact t.same y l' hl hj
    · have q := t.yes y
      show (if l'.length = 0 then (In.z, false) else secondS l').2 = false
      by_cases z : l'.length = 0
      · rw [if_pos z]
      · rw [if_neg z]
        by_cases z2 : l'.length < 2
        · unfold secondS; rw [if_pos z2]
        · rw [e l' (by omega) (hj 0 (by omega)) (hj 1 (by omega))]
          exact t.less y l' hl hj
end Go.Proofs.Ytjkakmmhbciilaa
