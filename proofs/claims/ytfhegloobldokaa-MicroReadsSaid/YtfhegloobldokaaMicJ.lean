/- Package micro: what holds of all programs, by looking at each. -/
import Derived.Test.YtfhegloobldokaaMicD
import Derived.Test.YtfhegloobldokaaMicI
namespace Go.Proofs.Ytfhegloobldokaa
set_option linter.unusedSimpArgs false
set_option linter.unusedVariables false
open Go.RowKit
namespace Mi
theorem index_idem (ix : Int) : index (index ix) = index ix := by
  unfold index
  by_cases h : ix ≠ 1 ∧ ix ≠ 2
  · rw [if_pos h]; rfl
  · rw [if_neg h, if_neg h]
theorem program_norm (set ix c : Int) : ∃ s i : Nat, s < 5 ∧ i < 3 ∧ programS set ix c = programS s i c ∧ (set = 0 ↔ s = 0) ∧ (set = 1 ↔ s = 1) ∧ (set = 2 ↔ s = 2) ∧ (set = 3 ↔ s = 3) ∧ (ix = 1 ↔ i = 1) ∧ (ix = 2 ↔ i = 2) := by
  have hi : ∃ i : Nat, i < 3 ∧ index ix = index i ∧ (ix = 1 ↔ i = 1) ∧ (ix = 2 ↔ i = 2) := by
    by_cases h1 : ix = 1
    · exact ⟨1, by omega, by rw [h1]; rfl, by omega, by omega⟩
    · by_cases h2 : ix = 2
      · exact ⟨2, by omega, by rw [h2]; rfl, by omega, by omega⟩
      · exact ⟨0, by omega, by unfold index; rw [if_pos ⟨h1, h2⟩]; rfl, by omega, by omega⟩
  obtain ⟨i, hi, he, h1, h2⟩ := hi
  have hs : ∃ s : Nat, s < 5 ∧ (set = s ∨ (s = 4 ∧ set ≠ 0 ∧ set ≠ 1 ∧ set ≠ 2 ∧ set ≠ 3)) := by
    by_cases h : 0 ≤ set ∧ set < 4
    · exact ⟨set.toNat, by omega, .inl (by omega)⟩
    · exact ⟨4, by omega, .inr ⟨rfl, by omega, by omega, by omega, by omega⟩⟩
  obtain ⟨s, hs, h⟩ := hs
  refine ⟨s, i, hs, hi, ?_, by omega, by omega, by omega, by omega, h1, h2⟩
  unfold programS
  rw [he]
  rcases h with rfl | ⟨rfl, a, b, d, e⟩
  · rfl
  · simp [a, b, d, e]
/-- what holds of each of 256 codes of each Set with each index holds of all programs -/
theorem all_programs (P : Nat → Nat → Nat → List Stp → Bool) (h : ((List.range 5).all fun s => (List.range 3).all fun i => (List.range 256).all fun c => P s i c (programS s i c)) = true) (s i c : Nat) (hs : s < 5) (hi : i < 3) (hc : c < 256) : P s i c (programS s i c) = true := by
  rw [List.all_eq_true] at h
  have h1 := h s (by simpa using hs)
  rw [List.all_eq_true] at h1
  have h2 := h1 i (by simpa using hi)
  rw [List.all_eq_true] at h2
  exact h2 c (by simpa using hc)
/-- may a step be? -/
def soundS (s : Stp) : Bool :=
  (s.1 == 0 && decide (1 ≤ s.2.2.2) && decide (s.2.2.2 ≤ 7) && (s.2.1 == 8 || s.2.1 == 9)) ||
  (s.1 == 1 && s.2.2.2 == 3 && (s.2.1 == 0 || s.2.1 == 1 || s.2.1 == 2 || s.2.1 == 3 || s.2.1 == 4 || s.2.1 == 6 || s.2.1 == 7)) ||
  (s.1 == 2 && s.2.2.2 == 3 && (s.2.1 == 1 || s.2.1 == 2 || s.2.1 == 3 || s.2.1 == 5 || s.2.1 == 6 || s.2.1 == 7)) ||
  (s.1 == 3 && s.2.2.2 == 4 && (s.2.1 == 2 || s.2.1 == 7)) ||
  (s.1 == 4 && s.2.2.2 == 4 && (s.2.1 == 2 || s.2.1 == 7)) ||
  (s.1 == 5 && s.2.2.2 == 0) || (s.1 == 6 && s.2.2.2 == 0)
def goodS (l : List Stp) : Bool := decide (l.length ≤ 9) && l.all soundS
set_option maxRecDepth 100000 in
set_option maxHeartbeats 0 in
theorem good_checked : ((List.range 5).all fun s => (List.range 3).all fun i => (List.range 256).all fun c => goodS (programS s i c)) = true := by decide +kernel
theorem good_all (set ix c : Int) (h0 : 0 ≤ c) (h1 : c ≤ 255) : (programS set ix c).length ≤ 9 ∧ ∀ s ∈ programS set ix c, soundS s = true := by
  obtain ⟨s, i, hs, hi, e, _⟩ := program_norm set ix c
  obtain ⟨n, rfl⟩ := Int.eq_ofNat_of_zero_le h0
  have h := all_programs (fun _ _ _ l => goodS l) good_checked s i n hs hi (by omega)
  rw [e]
  unfold goodS at h
  rw [Bool.and_eq_true, List.all_eq_true] at h
  exact ⟨of_decide_eq_true h.1, h.2⟩
theorem sound_small (l : List Stp) (h : ∀ s ∈ l, soundS s = true) : Small l := by
  intro s hs
  have := h s hs
  unfold soundS at this
  simp at this
  omega
theorem time_le (l : List Stp) (h : Small l) : timeS false l ≤ timeS true l := by
  induction l with
  | nil => simp [timeS]
  | cons s l ih =>
    have h1 := h s (by simp)
    have h2 := ih (fun t ht => h t (by simp [ht]))
    have h3 := (timeS_range true l (fun t ht => h t (by simp [ht]))).1
    simp only [timeS]
    by_cases c : s.1 ≤ 4 ∧ 0 ≤ s.1
    · rw [if_pos c, if_pos c]; omega
    · rw [if_neg c, if_neg c]
      by_cases d : s.1 = 6
      · simp [d]; exact h3
      · simp [d]; exact h2
end Mi
end Go.Proofs.Ytfhegloobldokaa
