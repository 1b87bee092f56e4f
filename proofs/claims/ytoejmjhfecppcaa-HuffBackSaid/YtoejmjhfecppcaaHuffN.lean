/- Plain laws: the reference's search for a symbol is the table's. -/
import Derived.Test.YtoejmjhfecppcaaHuffM
namespace Go.Proofs.Ytoejmjhfecppcaa
open Go.RowKit
namespace Hf
theorem codeOf_pos (l p : List Int) (k : Nat) (h : 0 < k) : codeOf l p (k : Int) = start l k + cnt p k := by
  unfold codeOf; rw [if_neg (by omega)]; rfl
theorem cnt_cons' (x : Int) (l : List Int) (k : Nat) : cnt (x :: l) k = (if x = k then 1 else 0) + cnt l k := by
  unfold cnt
  rw [List.filter_cons]
  by_cases h : x = (k : Int)
  · simp [h]; omega
  · simp [h]
/-- which symbol has a code that these bits are -/
theorem hit_iff (l bs : List Int) (p n i : Nat) (h : 0 ≤ room l 15) (hin : inRange l) (hi : i < l.length) (hn : 0 < n) (hp : p + n ≤ 8 * bs.length) :
    ((textOf l i != [] && textOf l i == (bitStr bs p).take n) = true) ↔ (l.getD i 0 = n ∧ start l n + cnt (l.take i) n = val bs p n) := by
  have hm : l.getD i 0 ∈ l := by simp [List.getD, List.getElem?_eq_getElem hi]
  have hr := hin _ hm
  rw [bitStr_take bs p n hp]
  have hv := val_range bs p n
  constructor
  · intro hh
    have h1 : textOf l i = text n (val bs p n) := by simp at hh; exact hh.2
    have h2 : (l.getD i 0).toNat = n := by
      have := congrArg List.length h1
      simpa [textOf, text_len] using this
    have h3 : l.getD i 0 = n := by omega
    refine ⟨h3, ?_⟩
    unfold textOf at h1
    rw [h2, h3, codeOf_pos l _ n hn] at h1
    have h4 := cnt_take_le l i n
    have h5 := start_pow l h n hn (by omega)
    have h6 := start_nonneg l n
    have h7 := cnt_nonneg (l.take i) n
    have h8 := cnt_take_lt l i l.length n (by omega) hi h3
    rw [List.take_length] at h8
    exact text_inj n _ _ (by omega) (by omega) hv.1 hv.2 h1
  · rintro ⟨h3, h4⟩
    have h1 : textOf l i = text n (val bs p n) := by
      unfold textOf
      rw [h3, codeOf_pos l _ n hn, h4]; rfl
    rw [h1]
    have : text n (val bs p n) ≠ [] := fun e => by
      have := congrArg List.length e
      rw [text_len] at this; simp at this; omega
    simp [this]
theorem find_texts (l : List Int) (P : List UInt8 → Bool) (i : Nat) (hi : i < l.length) (h : P (textOf l i) = true) (hu : ∀ j, j < l.length → P (textOf l j) = true → j = i) : (texts l).findIdx? P = some i := by
  rw [List.findIdx?_eq_some_iff_getElem]
  refine ⟨by simpa [texts] using hi, by simpa [texts] using h, fun j hj => ?_⟩
  have hj2 : j < l.length := by omega
  simp only [texts, List.getElem_map, List.getElem_range]
  intro hc
  have := hu j hj2 hc
  omega
theorem find_none (l : List Int) (P : List UInt8 → Bool) (h : ∀ j, j < l.length → P (textOf l j) = false) : (texts l).findIdx? P = none := by
  rw [List.findIdx?_eq_none_iff]
  intro t ht
  obtain ⟨j, hj, rfl⟩ := List.mem_map.1 ht
  exact h j (by simpa using hj)
theorem cnt_two (l : List Int) (k : Nat) (h : k ≠ 0) : cnt l 0 + cnt l k ≤ l.length := by
  induction l with
  | nil => simp [cnt]
  | cons x l ih =>
    rw [cnt_cons', cnt_cons', List.length_cons]
    by_cases h1 : x = 0
    · rw [if_pos (by simpa using h1), if_neg (by omega)]; omega
    · rw [if_neg (by simpa using h1)]; split <;> omega
theorem cnt_three (l : List Int) (k j : Nat) (h : k ≠ 0) (h2 : j ≠ 0) (h3 : k ≠ j) : cnt l 0 + cnt l k + cnt l j ≤ l.length := by
  induction l with
  | nil => simp [cnt]
  | cons x l ih =>
    rw [cnt_cons', cnt_cons', cnt_cons', List.length_cons]
    by_cases h1 : x = 0
    · rw [if_pos (by simpa using h1), if_neg (by omega), if_neg (by omega)]; omega
    · rw [if_neg (by simpa using h1)]
      by_cases h4 : x = (k : Int)
      · rw [if_pos h4, if_neg (by omega)]; omega
      · rw [if_neg h4]; split <;> omega
theorem symsTo_at (l : List Int) (k r m : Nat) (hr : (r : Int) < cnt l (k + 1)) : (symsTo l (k + 1 + m))[(symsTo l k).length + r]? = (symsAt l (k + 1) l.length)[r]? := by
  have hlen := symsAt_len l (k + 1)
  induction m with
  | zero => simp only [Nat.add_zero, symsTo]; rw [List.getElem?_append_right (by omega)]; congr 1; omega
  | succ m ih =>
    have h1 := symsTo_mono l (k + 1) m
    have h2 := symsTo_succ_len l k
    rw [← Nat.add_assoc, symsTo, List.getElem?_append_left (by omega), ih]
/-- what is longer covers what is left -/
theorem cover (l : List Int) (h : room l 15 = 0) (f : Nat) : ∀ k v, k + f = 15 → 0 ≤ v → v < 2 ^ k → start l (k + 1) ≤ 2 * v →
    ∃ m r : Nat, k + (m + 1) ≤ 15 ∧ (r : Int) < cnt l (k + (m + 1)) ∧ (start l (k + (m + 1)) + r) / 2 ^ (m + 1) = v := by
  induction f with
  | zero =>
    intro k v hk hv0 hv1 hs
    obtain rfl : k = 15 := by omega
    have h1 := room_start l 14
    rw [show (14 + 1) = 15 from rfl, h] at h1
    rw [start_succ l 15 (by omega)] at hs
    omega
  | succ f ih =>
    intro k v hk hv0 hv1 hs
    by_cases c : 2 * v < start l (k + 1) + cnt l (k + 1)
    · refine ⟨0, (2 * v - start l (k + 1)).toNat, by omega, by simp; omega, ?_⟩
      rw [show k + (0 + 1) = k + 1 from rfl]
      have : ((2 * v - start l (k + 1)).toNat : Int) = 2 * v - start l (k + 1) := by omega
      rw [this]
      simp; omega
    · obtain ⟨m, r, h1, h2, h3⟩ := ih (k + 1) (2 * v) (by omega) (by omega) (by rw [Int.pow_succ]; omega) (by rw [start_succ l (k + 1) (by omega)]; omega)
      refine ⟨m + 1, r, by omega, by rw [show k + (m + 1 + 1) = k + 1 + (m + 1) from by omega]; exact h2, ?_⟩
      rw [show k + (m + 1 + 1) = k + 1 + (m + 1) from by omega, Int.pow_succ, ← Int.ediv_ediv_of_nonneg (Int.le_of_lt (Int.pow_pos (by omega))), h3]
      omega
theorem err_cases {l : List Int} (h : err l = 0) : room l 15 = 0 ∨ codes l ≤ 0 ∨ (codes l = 1 ∧ cnt l 1 = 1) := by
  obtain ⟨h1, h2, h3⟩ := err_room h
  unfold err at h
  rw [if_neg (by omega), if_neg (fun x => x h3), if_neg (by omega)] at h
  by_cases c : 0 < room l 15 ∧ 0 < codes l ∧ (1 < codes l ∨ cnt l 1 ≠ 1)
  · rw [if_pos c] at h; omega
  · by_cases c1 : 0 < room l 15
    · by_cases c2 : 0 < codes l
      · have c3 : ¬ (1 < codes l ∨ cnt l 1 ≠ 1) := fun x => c ⟨c1, c2, x⟩
        refine .inr (.inr ⟨by omega, by omega⟩)
      · exact .inr (.inl (by omega))
    · exact .inl (by omega)
end Hf
end Go.Proofs.Ytoejmjhfecppcaa
