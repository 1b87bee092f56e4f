/- Plain laws: bits that were put together of codes are read as the symbols. -/
import Derived.Test.YtoejmjhfecppcaaHuffO
namespace Go.Proofs.Ytoejmjhfecppcaa
open Go.RowKit
namespace Hf
/-- k binary digits of x, the highest first -/
def digs : Nat → Int → List Int
  | 0, _ => []
  | k + 1, x => digs k (x / 2) ++ [x % 2]
theorem digs_len (k : Nat) (x : Int) : (digs k x).length = k := by
  induction k generalizing x with
  | zero => rfl
  | succ k ih => simp [digs, ih]
theorem digs_range (k : Nat) (x : Int) : ∀ d ∈ digs k x, d = 0 ∨ d = 1 := by
  induction k generalizing x with
  | zero => intro d hd; cases hd
  | succ k ih =>
    intro d hd
    rw [digs, List.mem_append] at hd
    rcases hd with hd | hd
    · exact ih _ d hd
    · simp at hd; omega
theorem digs_take (n k : Nat) (x : Int) : (digs (n + k) x).take n = digs n (x / 2 ^ k) := by
  induction k generalizing x with
  | zero => rw [Nat.add_zero, List.take_of_length_le (by rw [digs_len]; omega)]; simp
  | succ k ih =>
    rw [← Nat.add_assoc, digs, List.take_append_of_le_length (by rw [digs_len]; omega), ih, ediv_pow_succ]
/-- one digit more -/
theorem digs_next (n k : Nat) (x : Int) : digs n (x / 2 ^ (k + 1)) ++ [x / 2 ^ k % 2] = digs (n + 1) (x / 2 ^ k) := by
  rw [digs]
  congr 2
  rw [Int.pow_succ, ← Int.ediv_ediv_of_nonneg (Int.le_of_lt (Int.pow_pos (by omega)))]
/-- bits whose places bear the digits of a number are that number -/
theorem val_digs (bs : List Int) (p L : Nat) (x : Int) (h0 : 0 ≤ x) (h1 : x < 2 ^ L) (hb : ∀ j, j < L → bitAt bs (p + j) = (digs L x).getD j 0) : ∀ j, j ≤ L → val bs p j = x / 2 ^ (L - j) := by
  intro j
  induction j with
  | zero => intro _; rw [val, Nat.sub_zero, Int.ediv_eq_zero_of_lt h0 h1]
  | succ j ih =>
    intro hj
    rw [val, ih (by omega), hb j (by omega)]
    have e := digs_take (j + 1) (L - (j + 1)) x
    rw [show j + 1 + (L - (j + 1)) = L from by omega] at e
    have e2 : (digs L x)[j]? = (digs (j + 1) (x / 2 ^ (L - (j + 1))))[j]? := by rw [← e, List.getElem?_take, if_pos (by omega)]
    have e3 : (digs L x).getD j 0 = x / 2 ^ (L - (j + 1)) % 2 := by
      simp only [List.getD, e2, digs]
      rw [List.getElem?_append_right (by rw [digs_len]; exact Nat.le_refl _), digs_len]
      simp
    rw [e3, show L - j = (L - (j + 1)) + 1 from by omega, Int.pow_succ, ← Int.ediv_ediv_of_nonneg (Int.le_of_lt (Int.pow_pos (by omega)))]
    omega
theorem symbol_unique (l : List Int) (n i j : Nat) (hi : i < l.length) (hj : j < l.length) (h1 : l.getD i 0 = n) (h2 : l.getD j 0 = n) (h : cnt (l.take i) n = cnt (l.take j) n) : i = j := by
  rcases Nat.lt_trichotomy i j with c | c | c
  · have := cnt_take_lt l i j n c hi h1; omega
  · exact c
  · have := cnt_take_lt l j i n c hj h2; omega
theorem next_go_hit (l bs : List Int) (p s L : Nat) (he : err l = 0) (hs : s < l.length) (hL : l.getD s 0 = L) (hL0 : 0 < L) (hp : p + L ≤ 8 * bs.length)
    (hv : ∀ j, j ≤ L → val bs p j = (start l L + cnt (l.take s) L) / 2 ^ (L - j)) (m : Nat) : ∀ f k, k + f = 15 → k + (m + 1) = L → nextGo l bs p f k = ((s : Int), 0, L) := by
  obtain ⟨h0, h1, hin⟩ := err_room he
  have hL15 : L ≤ 15 := by
    have hm : l.getD s 0 ∈ l := by simp [List.getD, List.getElem?_eq_getElem hs]
    have := (hin _ hm).2; omega
  have hcs := cnt_take_lt l s l.length L hs hs hL
  rw [List.take_length] at hcs
  have hc0 := cnt_nonneg (l.take s) L
  induction m with
  | zero =>
    intro f k hf hk
    obtain ⟨f, rfl⟩ : ∃ f', f = f' + 1 := ⟨f - 1, by omega⟩
    obtain rfl : L = k + 1 := by omega
    have hsy := symsTo_succ_len l k
    have hmo := symsTo_mono l (k + 1) (14 - k)
    rw [show k + 1 + (14 - k) = 15 from by omega] at hmo
    have hvk := hv (k + 1) (Nat.le_refl _)
    rw [Nat.sub_self] at hvk
    simp at hvk
    simp only [nextGo]
    rw [if_neg (by omega), if_neg (by omega), hvk, if_pos (by omega)]
    obtain ⟨r, hr⟩ : ∃ r : Nat, (r : Int) = cnt (l.take s) (k + 1) := ⟨(cnt (l.take s) (k + 1)).toNat, by omega⟩
    obtain ⟨i, h5, h6, h7, h8⟩ := rank_symbol l k r (by omega) (by omega)
    rw [show (start l (k + 1) + cnt (l.take s) (k + 1) - start l (k + 1)).toNat = r from by omega, h6]
    have := symbol_unique l (k + 1) i s h5 hs h7 hL (by omega)
    rw [this]
  | succ m ih =>
    intro f k hf hk
    obtain ⟨f, rfl⟩ : ∃ f', f = f' + 1 := ⟨f - 1, by omega⟩
    have hsy := symsTo_succ_len l (k + (m + 1))
    have hmo := symsTo_mono l (k + (m + 1) + 1) (14 - (k + (m + 1)))
    rw [show k + (m + 1) + 1 + (14 - (k + (m + 1))) = 15 from by omega] at hmo
    have hmo2 := symsTo_mono l k (m + 1)
    have hLk : cnt l L = cnt l (k + (m + 1) + 1) := by congr 1; omega
    simp only [nextGo]
    rw [if_neg (by omega), if_neg (by omega)]
    have hvk := hv (k + 1) (by omega)
    have hfar := start_far l (k + 1) m (by omega)
    rw [show k + 1 + (m + 1) = L from by omega] at hfar
    have hge : start l (k + 1) + cnt l (k + 1) ≤ val bs p (k + 1) := by
      rw [hvk, show L - (k + 1) = m + 1 from by omega]
      apply Int.le_ediv_of_mul_le (Int.pow_pos (by omega))
      omega
    rw [if_neg (by omega)]
    exact ih f (k + 1) (by omega) (by omega)
theorem next_hit (l bs : List Int) (p s L : Nat) (he : err l = 0) (hs : s < l.length) (hL : l.getD s 0 = L) (hL0 : 0 < L) (hp : p + L ≤ 8 * bs.length)
    (hb : ∀ j, j < L → bitAt bs (p + j) = (digs L (start l L + cnt (l.take s) L)).getD j 0) : next l bs p = ((s : Int), 0, L) := by
  obtain ⟨h0, h1, hin⟩ := err_room he
  have hL15 : L ≤ 15 := by
    have hm : l.getD s 0 ∈ l := by simp [List.getD, List.getElem?_eq_getElem hs]
    have := (hin _ hm).2; omega
  have hcs := cnt_take_lt l s l.length L hs hs hL
  rw [List.take_length] at hcs
  have hc0 := cnt_nonneg (l.take s) L
  have hs0 := start_nonneg l L
  have hsp := start_pow l h0 L hL0 hL15
  exact next_go_hit l bs p s L he hs hL hL0 hp (val_digs bs p L _ (by omega) (by omega) hb) (L - 1) 15 0 (by omega) (by omega)

/-- byte q of the first n bits, the first one the lowest -/
def byteTo (bits : List Int) (n q : Nat) : Int :=
  (if 8 * q < n then bits.getD (8 * q) 0 else 0) + (if 8 * q + 1 < n then bits.getD (8 * q + 1) 0 * 2 else 0) + (if 8 * q + 2 < n then bits.getD (8 * q + 2) 0 * 4 else 0) + (if 8 * q + 3 < n then bits.getD (8 * q + 3) 0 * 8 else 0)
    + (if 8 * q + 4 < n then bits.getD (8 * q + 4) 0 * 16 else 0) + (if 8 * q + 5 < n then bits.getD (8 * q + 5) 0 * 32 else 0) + (if 8 * q + 6 < n then bits.getD (8 * q + 6) 0 * 64 else 0) + (if 8 * q + 7 < n then bits.getD (8 * q + 7) 0 * 128 else 0)
def packTo (bits : List Int) (N n : Nat) : List Int := (List.range N).map (byteTo bits n)
theorem packTo_len (bits : List Int) (N n : Nat) : (packTo bits N n).length = N := by simp [packTo]
theorem packTo_zero (bits : List Int) (N : Nat) : packTo bits N 0 = List.replicate N 0 := by
  unfold packTo
  apply List.ext_getElem
  · simp
  · intro j h1 h2
    simp [byteTo]
/-- a bit more -/
theorem byteTo_succ (bits : List Int) (n q : Nat) : byteTo bits (n + 1) q = byteTo bits n q + if n / 8 = q then bits.getD n 0 * 2 ^ (n % 8) else 0 := by
  by_cases h : n / 8 = q
  · rw [if_pos h]
    have hq : q = n / 8 := h.symm
    have hn : n = 8 * q + n % 8 := by omega
    have h8 : n % 8 < 8 := Nat.mod_lt _ (by omega)
    generalize n % 8 = j at hn h8
    subst hn
    have hj : j = 0 ∨ j = 1 ∨ j = 2 ∨ j = 3 ∨ j = 4 ∨ j = 5 ∨ j = 6 ∨ j = 7 := by omega
    rcases hj with rfl | rfl | rfl | rfl | rfl | rfl | rfl | rfl <;> unfold byteTo <;> simp <;> omega
  · rw [if_neg h]
    unfold byteTo
    have e : ∀ j, j < 8 → (8 * q + j < n + 1 ↔ 8 * q + j < n) := fun j hj => by omega
    simp only [e 1 (by omega), e 2 (by omega), e 3 (by omega), e 4 (by omega), e 5 (by omega), e 6 (by omega), e 7 (by omega)]
    have e0 := e 0 (by omega)
    simp only [Nat.add_zero] at e0
    simp only [e0]
    omega
theorem bit_getD (bits : List Int) (h : ∀ d ∈ bits, d = 0 ∨ d = 1) (i : Nat) : bits.getD i 0 = 0 ∨ bits.getD i 0 = 1 := by
  by_cases hi : i < bits.length
  · have hm : bits.getD i 0 ∈ bits := by simp [List.getD, List.getElem?_eq_getElem hi]
    exact h _ hm
  · left; simp [List.getD, List.getElem?_eq_none (show bits.length ≤ i by omega)]
theorem byteTo_range (bits : List Int) (h : ∀ d ∈ bits, d = 0 ∨ d = 1) (n q : Nat) : 0 ≤ byteTo bits n q ∧ byteTo bits n q ≤ 255 := by
  have b : ∀ i (c : Int), 0 ≤ c → 0 ≤ (if i < n then bits.getD i 0 * c else 0) ∧ (if i < n then bits.getD i 0 * c else 0) ≤ c := fun i c hc => by
    rcases bit_getD bits h i with e | e <;> rw [e] <;> split <;> omega
  have b0 : 0 ≤ (if 8 * q < n then bits.getD (8 * q) 0 else 0) ∧ (if 8 * q < n then bits.getD (8 * q) 0 else 0) ≤ 1 := by
    rcases bit_getD bits h (8 * q) with e | e <;> rw [e] <;> split <;> omega
  have b1 := b (8 * q + 1) 2 (by omega); have b2 := b (8 * q + 2) 4 (by omega); have b3 := b (8 * q + 3) 8 (by omega); have b4 := b (8 * q + 4) 16 (by omega); have b5 := b (8 * q + 5) 32 (by omega); have b6 := b (8 * q + 6) 64 (by omega); have b7 := b (8 * q + 7) 128 (by omega)
  unfold byteTo
  omega
theorem byteTo_full (bits : List Int) (q : Nat) (i : Nat) : (if i < bits.length then bits.getD i 0 else 0) = bits.getD i 0 := by
  by_cases hi : i < bits.length
  · rw [if_pos hi]
  · rw [if_neg hi]; simp [List.getD, List.getElem?_eq_none (show bits.length ≤ i by omega)]
theorem bit_of_byte (x0 x1 x2 x3 x4 x5 x6 x7 : Int) (h0 : 0 ≤ x0 ∧ x0 ≤ 1) (h1 : 0 ≤ x1 ∧ x1 ≤ 1) (h2 : 0 ≤ x2 ∧ x2 ≤ 1) (h3 : 0 ≤ x3 ∧ x3 ≤ 1) (h4 : 0 ≤ x4 ∧ x4 ≤ 1) (h5 : 0 ≤ x5 ∧ x5 ≤ 1) (h6 : 0 ≤ x6 ∧ x6 ≤ 1) (h7 : 0 ≤ x7 ∧ x7 ≤ 1) :
    (x0 + x1 * 2 + x2 * 4 + x3 * 8 + x4 * 16 + x5 * 32 + x6 * 64 + x7 * 128) / 1 % 2 = x0 ∧ (x0 + x1 * 2 + x2 * 4 + x3 * 8 + x4 * 16 + x5 * 32 + x6 * 64 + x7 * 128) / 2 % 2 = x1 ∧
    (x0 + x1 * 2 + x2 * 4 + x3 * 8 + x4 * 16 + x5 * 32 + x6 * 64 + x7 * 128) / 4 % 2 = x2 ∧ (x0 + x1 * 2 + x2 * 4 + x3 * 8 + x4 * 16 + x5 * 32 + x6 * 64 + x7 * 128) / 8 % 2 = x3 ∧
    (x0 + x1 * 2 + x2 * 4 + x3 * 8 + x4 * 16 + x5 * 32 + x6 * 64 + x7 * 128) / 16 % 2 = x4 ∧ (x0 + x1 * 2 + x2 * 4 + x3 * 8 + x4 * 16 + x5 * 32 + x6 * 64 + x7 * 128) / 32 % 2 = x5 ∧
    (x0 + x1 * 2 + x2 * 4 + x3 * 8 + x4 * 16 + x5 * 32 + x6 * 64 + x7 * 128) / 64 % 2 = x6 ∧ (x0 + x1 * 2 + x2 * 4 + x3 * 8 + x4 * 16 + x5 * 32 + x6 * 64 + x7 * 128) / 128 % 2 = x7 := by
  refine ⟨by omega, by omega, by omega, by omega, by omega, by omega, by omega, by omega⟩
theorem pack_bit (bits : List Int) (h : ∀ d ∈ bits, d = 0 ∨ d = 1) (N i : Nat) (hN : 8 * N ≥ bits.length) (hi : i < bits.length) : bitAt (packTo bits N bits.length) i = bits.getD i 0 := by
  have hq : i / 8 < N := by omega
  unfold bitAt packTo
  have hg : ((List.range N).map (byteTo bits bits.length)).getD (i / 8) 0 = byteTo bits bits.length (i / 8) := by simp [List.getD, hq]
  rw [hg]
  have hz : ∀ j (c : Int), (if 8 * (i / 8) + j < bits.length then bits.getD (8 * (i / 8) + j) 0 * c else 0) = bits.getD (8 * (i / 8) + j) 0 * c := fun j c => by
    by_cases hi : 8 * (i / 8) + j < bits.length
    · rw [if_pos hi]
    · rw [if_neg hi]; simp [List.getD, List.getElem?_eq_none (show bits.length ≤ 8 * (i / 8) + j by omega)]
  have hz0 := byteTo_full bits 0 (8 * (i / 8))
  unfold byteTo
  rw [hz0, hz, hz, hz, hz, hz, hz, hz]
  have b : ∀ i, 0 ≤ bits.getD i 0 ∧ bits.getD i 0 ≤ 1 := fun i => by rcases bit_getD bits h i with e | e <;> omega
  have B := bit_of_byte _ _ _ _ _ _ _ _ (b (8 * (i / 8))) (b (8 * (i / 8) + 1)) (b (8 * (i / 8) + 2)) (b (8 * (i / 8) + 3)) (b (8 * (i / 8) + 4)) (b (8 * (i / 8) + 5)) (b (8 * (i / 8) + 6)) (b (8 * (i / 8) + 7))
  have hj : i % 8 = 0 ∨ i % 8 = 1 ∨ i % 8 = 2 ∨ i % 8 = 3 ∨ i % 8 = 4 ∨ i % 8 = 5 ∨ i % 8 = 6 ∨ i % 8 = 7 := by omega
  have hR : ∀ j, i % 8 = j → bits.getD i 0 = bits.getD (8 * (i / 8) + j) 0 := fun j hj => by congr 1; omega
  rcases hj with e | e | e | e | e | e | e | e <;> rw [hR _ e, e]
  · exact B.1
  · exact B.2.1
  · exact B.2.2.1
  · exact B.2.2.2.1
  · exact B.2.2.2.2.1
  · exact B.2.2.2.2.2.1
  · exact B.2.2.2.2.2.2.1
  · exact B.2.2.2.2.2.2.2
end Hf
end Go.Proofs.Ytoejmjhfecppcaa
