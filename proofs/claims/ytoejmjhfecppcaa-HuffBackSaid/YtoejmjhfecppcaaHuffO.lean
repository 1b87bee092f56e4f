/- Plain laws: the reference's search for a symbol is the table's; what was put together is read. -/
import Derived.Test.YtoejmjhfecppcaaHuffN
namespace Go.Proofs.Ytoejmjhfecppcaa
open Go.RowKit
namespace Hf
/-- the symbol that the table tells of a rank -/
theorem rank_symbol (l : List Int) (k r : Nat) (hk : k < 15) (hr : (r : Int) < cnt l (k + 1)) :
    ∃ i : Nat, i < l.length ∧ (symsTo l 15).getD ((symsTo l k).length + r) 0 = i ∧ l.getD i 0 = ((k + 1 : Nat) : Int) ∧ cnt (l.take i) (k + 1) = r := by
  have h1 := symsTo_at l k r (14 - k) hr
  rw [show k + 1 + (14 - k) = 15 from by omega] at h1
  have h2 := symsAt_len l (k + 1)
  obtain ⟨x, hx⟩ : ∃ x, (symsAt l (k + 1) l.length)[r]? = some x := ⟨_, List.getElem?_eq_getElem (by omega)⟩
  obtain ⟨i, rfl, h3, h4, h5⟩ := symsAt_get l (k + 1) l.length (Nat.le_refl _) r x hx
  exact ⟨i, h3, by simp [List.getD, h1, hx], h4, h5⟩
theorem any_texts (l : List Int) (P : List UInt8 → Bool) : (texts l).any P = true ↔ ∃ i, i < l.length ∧ P (textOf l i) = true := by
  unfold texts
  rw [List.any_map, List.any_eq_true]
  constructor
  · rintro ⟨i, hi, h⟩; exact ⟨i, by simpa using hi, h⟩
  · rintro ⟨i, hi, h⟩; exact ⟨i, by simpa using hi, h⟩
/-- some code is longer, and begins so, just if there are longer ones -/
theorem some_iff (l bs : List Int) (p k : Nat) (he : err l = 0) (hk : k ≤ 15) (hp : p + k ≤ 8 * bs.length) (hs : start l (k + 1) ≤ 2 * val bs p k) :
    ((texts l).any (fun t => decide (k < t.length) && t.take k == (bitStr bs p).take k) = true) ↔ (symsTo l k).length < (symsTo l 15).length := by
  obtain ⟨h0, h1, hin⟩ := err_room he
  have hv := val_range bs p k
  rw [any_texts, bitStr_take bs p k hp]
  have hlen : ∀ i, i < l.length → 0 ≤ l.getD i 0 ∧ l.getD i 0 ≤ 15 := fun i hi => hin _ (by simp [List.getD, List.getElem?_eq_getElem hi])
  constructor
  · rintro ⟨i, hi, h⟩
    have hl := hlen i hi
    have h2 : k < (l.getD i 0).toNat := by
      simp [textOf, text_len] at h
      have h9 := h.1
      simp only [List.getD]
      omega
    obtain ⟨m, hm⟩ : ∃ m : Nat, (l.getD i 0).toNat = k + (m + 1) := ⟨(l.getD i 0).toNat - k - 1, by omega⟩
    have h3 := cnt_take_lt l i l.length (k + (m + 1)) hi hi (by omega)
    rw [List.take_length] at h3
    have h4 := cnt_nonneg (l.take i) (k + (m + 1))
    have h5 := symsTo_succ_len l (k + m)
    have h6 := symsTo_mono l k m
    have h7 := symsTo_mono l (k + m + 1) (14 - (k + m))
    rw [show k + m + 1 + (14 - (k + m)) = 15 from by omega] at h7
    rw [← Nat.add_assoc] at h3 h4
    omega
  · intro h
    have ex : ∃ m r : Nat, k + (m + 1) ≤ 15 ∧ (r : Int) < cnt l (k + (m + 1)) ∧ (start l (k + (m + 1)) + r) / 2 ^ (m + 1) = val bs p k := by
      rcases err_cases he with c | c | c
      · exact cover l c (15 - k) k _ (by omega) hv.1 hv.2 hs
      · exfalso
        have h2 : ∀ j, j ≤ 15 → (symsTo l j).length = 0 := by
          intro j hj
          induction j with
          | zero => rfl
          | succ j ih =>
            have h3 := symsTo_succ_len l j
            have h4 := ih (by omega)
            have h5 : cnt l (j + 1) ≤ codes l := by
              unfold codes
              have := cnt_two l (j + 1) (by omega)
              omega
            have := cnt_nonneg l (j + 1)
            omega
        have := h2 15 (by omega)
        omega
      · have h2 : ∀ j, 1 ≤ j → j ≤ 15 → (symsTo l j).length = 1 := by
          intro j hj hj2
          induction j with
          | zero => omega
          | succ j ih =>
            have h3 := symsTo_succ_len l j
            by_cases h4 : j = 0
            · subst h4; simp [symsTo] at h3; have := c.2; simp [symsTo]; omega
            · have h5 := ih (by omega) (by omega)
              have h6 := cnt_three l (j + 1) 1 (by omega) (by omega) (by omega)
              have h7 : (l.length : Int) - cnt l 0 = 1 := c.1
              have := cnt_nonneg l (j + 1)
              have := c.2
              omega
        have h3 := h2 15 (by omega) (by omega)
        have hk0 : k = 0 := by
          by_cases hk0 : k = 0
          · exact hk0
          · have := h2 k (by omega) hk; omega
        subst hk0
        refine ⟨0, 0, by omega, ?_, ?_⟩
        · have := c.2; simpa using by omega
        · simp [start, val]
    obtain ⟨m, r, h2, h3, h4⟩ := ex
    obtain ⟨i, h5, _, h6, h7⟩ := rank_symbol l (k + m) r (by omega) (by rw [Nat.add_assoc]; exact h3)
    refine ⟨i, h5, ?_⟩
    have h8 : textOf l i = text (k + (m + 1)) (start l (k + (m + 1)) + r) := by
      unfold textOf
      rw [h6, codeOf_pos l _ _ (by omega), h7]; rfl
    rw [h8, text_len, text_take, h4]
    simp
/-- the reference's search is the table's -/
theorem ref_go (l bs : List Int) (p : Nat) (he : err l = 0) (f : Nat) : ∀ k, k + f = 15 → p + k ≤ 8 * bs.length → start l (k + 1) ≤ 2 * val bs p k →
    (texts l).findIdx? (fun t => t != [] && t == (bitStr bs p).take k) = none →
    refGo (texts l) (bitStr bs p) (8 * bs.length - p + 1 - k) k = ((nextGo l bs p f k).1, (nextGo l bs p f k).2.2, (nextGo l bs p f k).2.1) := by
  obtain ⟨h0, h1, hin⟩ := err_room he
  induction f with
  | zero =>
    intro k hk hp hs hn
    obtain rfl : k = 15 := by omega
    have h2 := some_iff l bs p 15 he (by omega) hp hs
    rw [show 8 * bs.length - p + 1 - 15 = (8 * bs.length - p - 15) + 1 from by omega]
    simp only [refGo, nextGo]
    rw [hn, if_neg (fun h => by have := h2.1 h; omega)]
  | succ f ih =>
    intro k hk hp hs hn
    have h2 := some_iff l bs p k he (by omega) hp hs
    rw [show 8 * bs.length - p + 1 - k = (8 * bs.length - p - k) + 1 from by omega]
    simp only [refGo, nextGo]
    rw [hn]
    by_cases c : (symsTo l 15).length ≤ (symsTo l k).length
    · rw [if_pos c, if_neg (fun h => by have := h2.1 h; omega)]
    · simp only [if_neg c]
      rw [if_pos (h2.2 (by omega))]
      by_cases d : 8 * bs.length ≤ p + k
      · rw [if_pos d, show 8 * bs.length - p - k = 0 from by omega]
        simp only [refGo, bitStr_len]
        rw [show 8 * bs.length - p = k from by omega]
      · rw [if_neg d]
        have hvr := val_range bs p (k + 1)
        have hcv : val bs p (k + 1) = 2 * val bs p k + bitAt bs (p + k) := rfl
        have hb := bitAt_range bs (p + k)
        by_cases e : val bs p (k + 1) - start l (k + 1) < cnt l (k + 1)
        · rw [if_pos e]
          obtain ⟨r, hr⟩ : ∃ r : Nat, (r : Int) = val bs p (k + 1) - start l (k + 1) := ⟨(val bs p (k + 1) - start l (k + 1)).toNat, by omega⟩
          obtain ⟨i, h5, h6, h7, h8⟩ := rank_symbol l k r (by omega) (by omega)
          rw [show (val bs p (k + 1) - start l (k + 1)).toNat = r from by omega, h6]
          have hf := find_texts l (fun t => t != [] && t == (bitStr bs p).take (k + 1)) i h5 ((hit_iff l bs p (k + 1) i h0 hin h5 (by omega) (by omega)).2 ⟨h7, by omega⟩)
            (fun j hj hjt => by
              obtain ⟨h9, h10⟩ := (hit_iff l bs p (k + 1) j h0 hin hj (by omega) (by omega)).1 hjt
              rcases Nat.lt_trichotomy i j with c1 | c1 | c1
              · have := cnt_take_lt l i j (k + 1) c1 h5 h7; omega
              · exact c1.symm
              · have := cnt_take_lt l j i (k + 1) c1 hj h9; omega)
          rw [show 8 * bs.length - p - k = (8 * bs.length - p - k - 1) + 1 from by omega]
          simp only [refGo]
          rw [hf]
        · rw [if_neg e]
          have := ih (k + 1) (by omega) (by omega) (by rw [start_succ l (k + 1) (by omega)]; omega) (find_none l _ (fun j hj => by
            cases hc : (textOf l j != [] && textOf l j == (bitStr bs p).take (k + 1)) with
            | false => rfl
            | true =>
              obtain ⟨h9, h10⟩ := (hit_iff l bs p (k + 1) j h0 hin hj (by omega) (by omega)).1 hc
              have h11 := cnt_take_lt l j l.length (k + 1) hj hj h9
              rw [List.take_length] at h11
              omega))
          rw [show 8 * bs.length - p + 1 - (k + 1) = 8 * bs.length - p - k from by omega] at this
          exact this
theorem ref_next (l bs : List Int) (p : Nat) (he : err l = 0) (hp : p ≤ 8 * bs.length) : refNext (texts l) (bitStr bs p) = ((next l bs p).1, (next l bs p).2.2, (next l bs p).2.1) := by
  have h := ref_go l bs p he 15 0 (by omega) hp (by simp [start, val]) (find_none l _ (fun j _ => by simp))
  unfold refNext next
  rw [bitStr_len]
  exact h
end Hf
end Go.Proofs.Ytoejmjhfecppcaa
