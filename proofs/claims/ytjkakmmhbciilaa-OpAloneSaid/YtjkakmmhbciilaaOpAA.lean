/- What is read hangs on its own bytes alone: the whole reading. -/
import Derived.Test.YtjkakmmhbciilaaOpZ
namespace Go.Proofs.Ytjkakmmhbciilaa
set_option linter.unusedSimpArgs false
set_option linter.unusedVariables false
open Go.RowKit
theorem tail2_set (l : List Int) (i : In) (k a : Nat) (h : i.set ≠ 4) : (tail2 l i k a).1.set ≠ 4 := by
  unfold tail2
  split
  · show (0 : Int) ≠ 4; decide
  · exact h
theorem tailS_set (l : List Int) (i : In) (k a : Nat) (h : i.set ≠ 4) : (tailS l i k a).1.set ≠ 4 := by
  unfold tailS
  split
  · split
    · show (0 : Int) ≠ 4; decide
    · exact tail2_set _ _ _ _ h
  · exact tail2_set _ _ _ _ h
theorem secondS_set (l : List Int) : (secondS l).1.set ≠ 4 := by
  unfold secondS
  split
  · show (0 : Int) ≠ 4; decide
  split
  · show (1 : Int) ≠ 4; decide
  · exact tailS_set _ _ _ _ (by show (2 : Int) ≠ 4; decide)
theorem getD_b8 {l : List Int} (hb : ∀ x ∈ l, B8 x) (j : Nat) : B8 (l.getD j 0) := by
  by_cases h : j < l.length
  · rw [List.getD_eq_getElem?_getD, List.getElem?_eq_getElem h]
    exact hb _ (List.getElem_mem h)
  · rw [List.getD_eq_getElem?_getD, List.getElem?_eq_none (by omega)]
    exact ⟨by decide, by decide⟩
/-- a reading that tells the same of other bytes as another one at them -/
theorem Tells.of {l : List Int} {f g : List Int → In × Bool} {R : In × Bool} {k m : Nat} (t : Tells l f R k m) (hk : 1 ≤ k)
    (h1 : ∀ l' : List Int, k ≤ l'.length → (∀ j : Nat, j < k → l'.getD j 0 = l.getD j 0) → g l' = f l')
    (h2 : ∀ l' : List Int, l'.length < k → (∀ j : Nat, j < l'.length → l'.getD j 0 = l.getD j 0) → (g l').2 = false) : Tells l g R 1 m := by
  refine ⟨t.no, fun h => ⟨by have := (t.yes h).1; omega, (t.yes h).2⟩, fun h l' hl hj => ?_, fun h l' hl hj => ?_⟩
  · have y := t.yes h
    rw [h1 l' (by omega) (fun j q => hj j (by omega))]
    exact t.same h l' hl hj
  · have y := t.yes h
    by_cases q : l'.length < k
    · exact h2 l' q hj
    · rw [h1 l' (by omega) (fun j q2 => hj j (by omega))]
      exact t.less h l' hl hj
theorem preS_tells (l : List Int) (ix : Int) (hix : 0 < ix) (hb : ∀ x ∈ l, B8 x) (g : List Int → In × Bool) (hl : 1 ≤ l.length)
    (h1 : ∀ l' : List Int, 1 ≤ l'.length → l'.getD 0 0 = l.getD 0 0 → g l' = preS l' ix) (h0 : ∀ l' : List Int, l'.length = 0 → (g l').2 = false) :
    (preS l ix = (⟨4, ix, 0, 0, 0, 1⟩, true)) ∨ ((preS l ix).1.set ≠ 4 ∧ Tells l g (preS l ix) 1 4) := by
  by_cases a : l.length < 2
  · right
    have e : preS l ix = (In.z, false) := by unfold preS; rw [if_pos a]
    rw [e]
    exact ⟨by show (0 : Int) ≠ 4; decide, fun _ => ⟨rfl, by omega⟩, (fun h => by cases h), (fun h => by cases h), (fun h => by cases h)⟩
  have sh : ∀ l' : List Int, l'.length < 2 → (∀ j : Nat, j < l'.length → l'.getD j 0 = l.getD j 0) → (g l').2 = false := fun l' q hj => by
    by_cases z : l'.length = 0
    · exact h0 l' z
    · rw [h1 l' (by omega) (hj 0 (by omega))]
      unfold preS
      rw [if_pos q]
  by_cases b : l.getD 1 0 = 221 ∨ l.getD 1 0 = 237 ∨ l.getD 1 0 = 253
  · left
    unfold preS
    rw [if_neg a, if_pos b]
  right
  by_cases c : l.getD 1 0 = 203
  · have e : ∀ l' : List Int, 2 ≤ l'.length → (∀ j : Nat, j < 2 → l'.getD j 0 = l.getD j 0) → g l' = if l'.length < 4 then (In.z, false) else (⟨3, ix, l'.getD 3 0, l'.getD 2 0, 0, 4⟩, true) := fun l' q hj => by
      rw [h1 l' (by omega) (hj 0 (by omega))]
      unfold preS
      rw [if_neg (by omega), hj 1 (by omega), if_neg b, if_pos c]
    have e0 : preS l ix = if l.length < 4 then (In.z, false) else (⟨3, ix, l.getD 3 0, l.getD 2 0, 0, 4⟩, true) := by
      unfold preS
      rw [if_neg a, if_neg b, if_pos c]
    by_cases d : l.length < 4
    · rw [e0, if_pos d]
      exact ⟨by show (0 : Int) ≠ 4; decide, fun _ => ⟨rfl, by omega⟩, (fun h => by cases h), (fun h => by cases h), (fun h => by cases h)⟩
    · rw [e0, if_neg d]
      refine ⟨by show (3 : Int) ≠ 4; decide, (fun h => by cases h), fun _ => ⟨by show (1 : Int) ≤ 4; decide, by show (4 : Int) ≤ 4; decide, by show (4 : Int) ≤ _; omega⟩, fun _ l' hl hj => ?_, fun _ l' hl hj => ?_⟩
      · have hl : (4 : Int) ≤ l'.length := hl
        have hj : ∀ j : Nat, (j : Int) < 4 → l'.getD j 0 = l.getD j 0 := hj
        rw [e l' (by omega) (fun j q => hj j (by omega)), if_neg (by omega), hj 3 (by omega), hj 2 (by omega)]
      · have hl : (l'.length : Int) < 4 := hl
        by_cases q : l'.length < 2
        · exact sh l' q hj
        · rw [e l' (by omega) (fun j q => hj j (by omega)), if_pos (by omega)]
  · have b1 := getD_b8 hb 1
    have ran := argsS_ran _ b1.1 b1.2
    have t := tailS_tells l ⟨0, ix, l.getD 1 0, 0, 0, 0⟩ 2 (Mi.argsS (l.getD 1 0)).toNat 4 (by omega) (by omega) (fun h => by have := mem_args_of _ b1.1 b1.2 h.2.2; omega)
    have e0 : preS l ix = tailS l ⟨0, ix, l.getD 1 0, 0, 0, 0⟩ 2 (Mi.argsS (l.getD 1 0)).toNat := by
      unfold preS
      rw [if_neg a, if_neg b, if_neg c]
    rw [e0]
    refine ⟨tailS_set _ _ _ _ (by show (0 : Int) ≠ 4; decide), t.of (by omega) (fun l' q hj => ?_) sh⟩
    rw [h1 l' (by omega) (hj 0 (by omega))]
    show preS l' ix = tailS l' _ 2 _
    unfold preS
    rw [if_neg (by omega), hj 1 (by omega), if_neg b, if_neg c]
/-- the whole reading -/
theorem readS_tells (l : List Int) (hb : ∀ x ∈ l, B8 x) :
    (∃ ix : Int, readS l = (⟨4, ix, 0, 0, 0, 1⟩, true) ∧ 1 ≤ l.length) ∨ ((readS l).1.set ≠ 4 ∧ Tells l readS (readS l) 1 4) := by
  have z0 : ∀ l' : List Int, l'.length = 0 → (readS l').2 = false := fun l' z => by unfold readS; rw [if_pos z]
  by_cases a : l.length = 0
  · right
    have e : readS l = (In.z, false) := by unfold readS; rw [if_pos a]
    rw [e]
    exact ⟨by show (0 : Int) ≠ 4; decide, fun _ => ⟨rfl, by omega⟩, (fun h => by cases h), (fun h => by cases h), (fun h => by cases h)⟩
  by_cases b : l.getD 0 0 = 203 ∨ l.getD 0 0 = 237
  · right
    have e0 : readS l = secondS l := by unfold readS; rw [if_neg a, if_pos b]
    rw [e0]
    refine ⟨secondS_set l, (secondS_tells l (by omega)).of (by omega) (fun l' q hj => ?_) (fun l' q hj => ?_)⟩
    · show readS l' = if l'.length = 0 then (In.z, false) else secondS l'
      unfold readS
      rw [if_neg (by omega), hj 0 (by omega), if_pos b, if_neg (by omega)]
    · by_cases z : l'.length = 0
      · exact z0 l' z
      · unfold readS
        rw [if_neg z, hj 0 (by omega), if_pos b]
        unfold secondS
        rw [if_pos q]
  by_cases c : l.getD 0 0 = 221
  · have e : ∀ l' : List Int, 1 ≤ l'.length → l'.getD 0 0 = l.getD 0 0 → readS l' = preS l' 1 := fun l' q h => by unfold readS; rw [if_neg (by omega), h, if_neg b, if_pos c]
    rcases preS_tells l 1 (by decide) hb readS (by omega) e z0 with h | ⟨h1, h2⟩
    · left
      exact ⟨1, by rw [e l (by omega) rfl, h], by omega⟩
    · right
      rw [← e l (by omega) rfl] at h1 h2
      exact ⟨h1, h2⟩
  by_cases d : l.getD 0 0 = 253
  · have e : ∀ l' : List Int, 1 ≤ l'.length → l'.getD 0 0 = l.getD 0 0 → readS l' = preS l' 2 := fun l' q h => by unfold readS; rw [if_neg (by omega), h, if_neg b, if_neg c, if_pos d]
    rcases preS_tells l 2 (by decide) hb readS (by omega) e z0 with h | ⟨h1, h2⟩
    · left
      exact ⟨2, by rw [e l (by omega) rfl, h], by omega⟩
    · right
      rw [← e l (by omega) rfl] at h1 h2
      exact ⟨h1, h2⟩
  · right
    have b1 := getD_b8 hb 0
    have ran := argsS_ran _ b1.1 b1.2
    have t := tailS_tells l ⟨0, 0, l.getD 0 0, 0, 0, 0⟩ 1 (Mi.argsS (l.getD 0 0)).toNat 4 (by omega) (by omega) (fun h => by have := h.2.1; simp at this)
    have e0 : readS l = tailS l ⟨0, 0, l.getD 0 0, 0, 0, 0⟩ 1 (Mi.argsS (l.getD 0 0)).toNat := by
      unfold readS
      rw [if_neg a, if_neg b, if_neg c, if_neg d]
    rw [e0]
    refine ⟨tailS_set _ _ _ _ (by show (0 : Int) ≠ 4; decide), t.of (by omega) (fun l' q hj => ?_) (fun l' q hj => z0 l' (by omega))⟩
    show readS l' = tailS l' _ 1 _
    unfold readS
    rw [if_neg (by omega), hj 0 (by omega), if_neg b, if_neg c, if_neg d]
end Go.Proofs.Ytjkakmmhbciilaa
