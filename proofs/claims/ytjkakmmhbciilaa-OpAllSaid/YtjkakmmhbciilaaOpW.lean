/- squealref07.Read, told by the bytes; the law OpReads: its own body. -/
import Derived.Test.YtjkakmmhbciilaaOpV
import Derived.Test.YtjkakmmhbciilaaOpT
import Derived.Laws.StructEq
namespace Go.Proofs.Ytjkakmmhbciilaa
set_option linter.unusedSimpArgs false
set_option linter.unusedVariables false
open Go.RowKit
theorem eqb {a b : Int} (h : a ≠ b) : (a == b) = false := by simp [h]
theorem refE_any (ad : Addr) (n cap : Nat) (l : List Int) (w : World) (h : Bys w ad n cap l) (h1 : 1 ≤ n) (h2 : ¬ (l.getD 0 0 = 203 ∨ l.getD 0 0 = 237)) (h3 : l.getD 0 0 ≠ 221) (h4 : l.getD 0 0 ≠ 253) :
    Calls Try.prog 10 #[.slice (some ad) n cap] w (Reads (tailS l ⟨0, 0, l.getD 0 0, 0, 0, 0⟩ 1 (Mi.argsS (l.getD 0 0)).toNat) w) := by
  have hlt := h.lt h1
  have hn := h.len
  obtain ⟨c0, b0, _⟩ := h.at0 h1
  have ran := argsS_ran _ b0.1 b0.2
  have e7 := (Mi.args_eq _ b0.1 b0.2).1
  have k1 := eqb (fun e => h2 (.inl e))
  have k2 := eqb (fun e => h2 (.inr e))
  have k3 := eqb h3
  have k4 := eqb h4
  have ka : Mi.argsS (l.getD 0 0) = 0 ∨ Mi.argsS (l.getD 0 0) = 1 ∨ Mi.argsS (l.getD 0 0) = 2 := by omega
  rcases ka with ka | ka | ka
  · rw [ka] at e7 ⊢
    have e : tailS l ⟨0, 0, l.getD 0 0, 0, 0, 0⟩ 1 (0 : Int).toNat = (⟨0, 0, l.getD 0 0, 0, 0, 1⟩, true) := by
      simp [tailS, tail2, opnd, hn]; omega
    rw [e]
    exact refE_0 ad n cap _ w hlt h.capLe h.capMax b0.1 b0.2 c0 k1 k2 k3 k4 e7.symm h1
  · rw [ka] at e7 ⊢
    by_cases k : n < 2
    · have e : tailS l ⟨0, 0, l.getD 0 0, 0, 0, 0⟩ 1 (1 : Int).toNat = (In.z, false) := by
        simp [tailS, tail2, opnd, hn]; omega
      rw [e]
      exact refE_1n ad n cap _ w hlt h.capLe h.capMax b0.1 b0.2 c0 k1 k2 k3 k4 e7.symm h1 k
    · have e : tailS l ⟨0, 0, l.getD 0 0, 0, 0, 0⟩ 1 (1 : Int).toNat = (⟨0, 0, l.getD 0 0, 0, l.getD 1 0, 2⟩, true) := by
        simp [tailS, tail2, opnd, hn]; omega
      rw [e]
      obtain ⟨g1, b1⟩ := h.at_ 0 (by omega)
      exact refE_1 ad n cap _ _ w hlt h.capLe h.capMax b0.1 b0.2 c0 k1 k2 k3 k4 g1 b1 e7.symm (by omega)
  · rw [ka] at e7 ⊢
    by_cases k : n < 3
    · have e : tailS l ⟨0, 0, l.getD 0 0, 0, 0, 0⟩ 1 (2 : Int).toNat = (In.z, false) := by
        simp [tailS, tail2, opnd, hn]; omega
      rw [e]
      exact refE_2n ad n cap _ w hlt h.capLe h.capMax b0.1 b0.2 c0 k1 k2 k3 k4 e7.symm h1 k
    · have e : tailS l ⟨0, 0, l.getD 0 0, 0, 0, 0⟩ 1 (2 : Int).toNat = (⟨0, 0, l.getD 0 0, 0, l.getD 1 0 + 256 * l.getD 2 0, 3⟩, true) := by
        simp [tailS, tail2, opnd, hn]; omega
      rw [e]
      obtain ⟨g1, b1⟩ := h.at_ 0 (by omega)
      obtain ⟨g2, b2⟩ := h.at_ 1 (by omega)
      exact refE_2 ad n cap _ _ _ w hlt h.capLe h.capMax b0.1 b0.2 c0 k1 k2 k3 k4 g1 b1 g2 b2 e7.symm (by omega)
theorem refB_any (ad : Addr) (n cap : Nat) (ix v : Int) (l : List Int) (w : World) (h : Bys w ad n cap l) (h1 : 2 ≤ n) (h0 : l.getD 0 0 = v) (hv : v = 221 ∧ ix = 1 ∨ v = 253 ∧ ix = 2) (h2 : ¬ (l.getD 1 0 = 221 ∨ l.getD 1 0 = 237 ∨ l.getD 1 0 = 253)) (h3 : l.getD 1 0 ≠ 203) :
    Calls Try.prog 10 #[.slice (some ad) n cap] w (Reads (tailS l ⟨0, ix, l.getD 1 0, 0, 0, 0⟩ 2 (Mi.argsS (l.getD 1 0)).toNat) w) := by
  have hlt := h.lt (by omega)
  have hn := h.len
  obtain ⟨c0, -, _⟩ := h.at0 (by omega)
  rw [h0] at c0
  obtain ⟨c1, b1⟩ := h.at_ 0 (by omega)
  simp only [Nat.zero_add] at c1 b1
  have ran := argsS_ran _ b1.1 b1.2
  obtain ⟨e7, m7⟩ := Mi.args_eq _ b1.1 b1.2
  have k1 := eqb (fun e => h2 (.inl e))
  have k2 := eqb (fun e => h2 (.inr (.inl e)))
  have k3 := eqb (fun e => h2 (.inr (.inr e)))
  have k4 := eqb h3
  have hix : 0 < ix := by omega
  have ka : Mi.argsS (l.getD 1 0) = 0 ∨ Mi.argsS (l.getD 1 0) = 1 ∨ Mi.argsS (l.getD 1 0) = 2 := by omega
  cases hm : Mi.memS (l.getD 1 0) with
  | false =>
    rw [hm] at m7
    rcases ka with ka | ka | ka
    · rw [ka] at e7 ⊢
      have e : tailS l ⟨0, ix, l.getD 1 0, 0, 0, 0⟩ 2 (0 : Int).toNat = (⟨0, ix, l.getD 1 0, 0, 0, 2⟩, true) := by
        simp only [tailS, hm]; simp [tail2, opnd, hn]; omega
      rw [e]
      exact refB_0 ad n cap _ _ ix w hlt h.capLe h.capMax b1.1 b1.2 c0 c1 k1 k2 k3 k4 hv m7.symm e7.symm h1
    · rw [ka] at e7 ⊢
      by_cases k : n < 3
      · have e : tailS l ⟨0, ix, l.getD 1 0, 0, 0, 0⟩ 2 (1 : Int).toNat = (In.z, false) := by
          simp only [tailS, hm]; simp [tail2, opnd, hn]; omega
        rw [e]
        exact refB_1n ad n cap _ _ ix w hlt h.capLe h.capMax b1.1 b1.2 c0 c1 k1 k2 k3 k4 hv m7.symm e7.symm h1 k
      · have e : tailS l ⟨0, ix, l.getD 1 0, 0, 0, 0⟩ 2 (1 : Int).toNat = (⟨0, ix, l.getD 1 0, 0, l.getD 2 0, 3⟩, true) := by
          simp only [tailS, hm]; simp [tail2, opnd, hn]; omega
        rw [e]
        obtain ⟨g1, p1⟩ := h.at_ 1 (by omega)
        exact refB_1 ad n cap _ _ ix _ w hlt h.capLe h.capMax b1.1 b1.2 c0 c1 k1 k2 k3 k4 hv m7.symm g1 p1 e7.symm (by omega)
    · rw [ka] at e7 ⊢
      by_cases k : n < 4
      · have e : tailS l ⟨0, ix, l.getD 1 0, 0, 0, 0⟩ 2 (2 : Int).toNat = (In.z, false) := by
          simp only [tailS, hm]; simp [tail2, opnd, hn]; omega
        rw [e]
        exact refB_2n ad n cap _ _ ix w hlt h.capLe h.capMax b1.1 b1.2 c0 c1 k1 k2 k3 k4 hv m7.symm e7.symm h1 k
      · have e : tailS l ⟨0, ix, l.getD 1 0, 0, 0, 0⟩ 2 (2 : Int).toNat = (⟨0, ix, l.getD 1 0, 0, l.getD 2 0 + 256 * l.getD 3 0, 4⟩, true) := by
          simp only [tailS, hm]; simp [tail2, opnd, hn]; omega
        rw [e]
        obtain ⟨g1, p1⟩ := h.at_ 1 (by omega)
        obtain ⟨g2, p2⟩ := h.at_ 2 (by omega)
        exact refB_2 ad n cap _ _ ix _ _ w hlt h.capLe h.capMax b1.1 b1.2 c0 c1 k1 k2 k3 k4 hv m7.symm g1 p1 g2 p2 e7.symm (by omega)
  | true =>
    rw [hm] at m7
    by_cases k5 : n < 3
    · have e : ∀ a, tailS l ⟨0, ix, l.getD 1 0, 0, 0, 0⟩ 2 a = (In.z, false) := fun a => by
        simp only [tailS, hm]; simp [hn, hix]; omega
      obtain rfl : n = 2 := by omega
      rw [e]
      exact refC_n ad cap _ _ ix w hlt h.capMax b1.1 b1.2 c0 c1 k1 k2 k3 k4 hv m7.symm
    obtain ⟨gd, bd⟩ := h.at_ 1 (by omega)
    have n3 : ¬ n ≤ 2 := by omega
    rcases ka with ka | ka | ka
    · rw [ka] at e7 ⊢
      have e : tailS l ⟨0, ix, l.getD 1 0, 0, 0, 0⟩ 2 (0 : Int).toNat = (⟨0, ix, l.getD 1 0, l.getD 2 0, 0, 3⟩, true) := by
        simp only [tailS, hm]; simp [tail2, opnd, hn, hix, n3]; omega
      rw [e]
      exact refC_0 ad n cap _ _ ix _ w hlt h.capLe h.capMax b1.1 b1.2 c0 c1 k1 k2 k3 k4 hv m7.symm gd e7.symm (by omega)
    · rw [ka] at e7 ⊢
      by_cases k : n < 4
      · have e : tailS l ⟨0, ix, l.getD 1 0, 0, 0, 0⟩ 2 (1 : Int).toNat = (In.z, false) := by
          simp only [tailS, hm]; simp [tail2, opnd, hn, hix, n3]; omega
        rw [e]
        exact refC_1n ad n cap _ _ ix _ w hlt h.capLe h.capMax b1.1 b1.2 c0 c1 k1 k2 k3 k4 hv m7.symm gd e7.symm (by omega) k
      · have e : tailS l ⟨0, ix, l.getD 1 0, 0, 0, 0⟩ 2 (1 : Int).toNat = (⟨0, ix, l.getD 1 0, l.getD 2 0, l.getD 3 0, 4⟩, true) := by
          simp only [tailS, hm]; simp [tail2, opnd, hn, hix, n3]; omega
        rw [e]
        obtain ⟨g1, p1⟩ := h.at_ 2 (by omega)
        exact refC_1 ad n cap _ _ ix _ _ w hlt h.capLe h.capMax b1.1 b1.2 c0 c1 k1 k2 k3 k4 hv m7.symm gd g1 p1 e7.symm (by omega)
    · rw [ka] at e7 ⊢
      by_cases k : n < 5
      · have e : tailS l ⟨0, ix, l.getD 1 0, 0, 0, 0⟩ 2 (2 : Int).toNat = (In.z, false) := by
          simp only [tailS, hm]; simp [tail2, opnd, hn, hix, n3]; omega
        rw [e]
        exact refC_2n ad n cap _ _ ix _ w hlt h.capLe h.capMax b1.1 b1.2 c0 c1 k1 k2 k3 k4 hv m7.symm gd e7.symm (by omega) k
      · have e : tailS l ⟨0, ix, l.getD 1 0, 0, 0, 0⟩ 2 (2 : Int).toNat = (⟨0, ix, l.getD 1 0, l.getD 2 0, l.getD 3 0 + 256 * l.getD 4 0, 5⟩, true) := by
          simp only [tailS, hm]; simp [tail2, opnd, hn, hix, n3]; omega
        rw [e]
        obtain ⟨g1, p1⟩ := h.at_ 2 (by omega)
        obtain ⟨g2, p2⟩ := h.at_ 3 (by omega)
        exact refC_2 ad n cap _ _ ix _ _ _ w hlt h.capLe h.capMax b1.1 b1.2 c0 c1 k1 k2 k3 k4 hv m7.symm gd g1 p1 g2 p2 e7.symm (by omega)
/-- the document's Read, whole -/
theorem refRead_any (ad : Addr) (n cap : Nat) (l : List Int) (w : World) (h : Bys w ad n cap l) : Calls Try.prog 10 #[.slice (some ad) n cap] w (Reads (readS l) w) := by
  have hn := h.len
  unfold readS
  by_cases k0 : n = 0
  · subst k0
    rw [if_pos hn]
    exact ref_0 _ _ _
  rw [if_neg (by omega)]
  obtain ⟨c0, b0, _⟩ := h.at0 (by omega)
  have hlt := h.lt (by omega)
  by_cases k1 : l.getD 0 0 = 203 ∨ l.getD 0 0 = 237
  · rw [if_pos k1]
    unfold secondS
    by_cases m2 : n < 2
    · obtain rfl : n = 1 := by omega
      rw [if_pos (by omega)]
      exact ref_short ad cap _ w hlt c0 (by omega)
    rw [if_neg (by omega)]
    obtain ⟨c1, b1⟩ := h.at_ 0 (by omega)
    simp only [Nat.zero_add] at c1 b1
    by_cases m3 : l.getD 0 0 = 203
    · rw [if_pos m3]
      rw [m3] at c0
      exact ref_cb ad n cap _ w hlt c0 c1 h.capLe h.capMax (by omega)
    · rw [if_neg m3]
      have m4 : l.getD 0 0 = 237 := by omega
      rw [m4] at c0
      by_cases m5 : l.getD 1 0 / 64 = 1 ∧ l.getD 1 0 % 8 = 3
      · rw [if_pos m5]
        obtain ⟨x1, x2⟩ := m5
        by_cases m6 : n < 4
        · have e : tailS l ⟨2, 0, l.getD 1 0, 0, 0, 0⟩ 2 (2 : Int).toNat = (In.z, false) := by
            simp [tailS, tail2, opnd, hn]; omega
          rw [e]
          exact ref_ed_n ad n cap _ w hlt c0 c1 h.capLe h.capMax (by omega) m6 (by omega) (by omega) (by rw [x2]; rfl)
        · have e : tailS l ⟨2, 0, l.getD 1 0, 0, 0, 0⟩ 2 (2 : Int).toNat = (⟨2, 0, l.getD 1 0, 0, l.getD 2 0 + 256 * l.getD 3 0, 4⟩, true) := by
            simp [tailS, tail2, opnd, hn]; omega
          rw [e]
          obtain ⟨g1, p1⟩ := h.at_ 1 (by omega)
          obtain ⟨g2, p2⟩ := h.at_ 2 (by omega)
          exact ref_ed_2 ad n cap _ _ _ w hlt c0 c1 g1 g2 p1 p2 h.capLe h.capMax (by omega) (by omega) (by omega) (by rw [x2]; rfl)
      · rw [if_neg m5]
        have e : tailS l ⟨2, 0, l.getD 1 0, 0, 0, 0⟩ 2 (0 : Int).toNat = (⟨2, 0, l.getD 1 0, 0, 0, 2⟩, true) := by
          simp [tailS, tail2, opnd, hn]; omega
        rw [e]
        exact ref_ed ad n cap _ w hlt c0 c1 b1 h.capLe h.capMax (by omega) m5
  rw [if_neg k1]
  by_cases k2 : l.getD 0 0 = 221 ∨ l.getD 0 0 = 253
  · obtain ⟨ix, hix⟩ : ∃ ix : Int, l.getD 0 0 = 221 ∧ ix = 1 ∨ l.getD 0 0 = 253 ∧ ix = 2 := by
      rcases k2 with k | k
      · exact ⟨1, .inl ⟨k, rfl⟩⟩
      · exact ⟨2, .inr ⟨k, rfl⟩⟩
    have e : (if l.getD 0 0 = 221 then preS l 1 else if l.getD 0 0 = 253 then preS l 2 else tailS l ⟨0, 0, l.getD 0 0, 0, 0, 0⟩ 1 (Mi.argsS (l.getD 0 0)).toNat) = preS l ix := by
      rcases hix with ⟨k, rfl⟩ | ⟨k, rfl⟩
      · rw [if_pos k]
      · rw [if_neg (by omega), if_pos k]
    rw [e]
    unfold preS
    by_cases m2 : n < 2
    · obtain rfl : n = 1 := by omega
      rw [if_pos (by omega)]
      exact ref_short ad cap _ w hlt c0 (by omega)
    rw [if_neg (by omega)]
    obtain ⟨c1, b1⟩ := h.at_ 0 (by omega)
    simp only [Nat.zero_add] at c1 b1
    by_cases m3 : l.getD 1 0 = 221 ∨ l.getD 1 0 = 237 ∨ l.getD 1 0 = 253
    · rw [if_pos m3]
      exact ref_alone ad n cap ix _ _ w hlt c0 c1 h.capLe h.capMax (by omega) hix m3
    rw [if_neg m3]
    by_cases m4 : l.getD 1 0 = 203
    · rw [if_pos m4]
      rw [m4] at c1
      by_cases m5 : n < 4
      · rw [if_pos (by omega)]
        exact ref_precb_n ad n cap ix _ w hlt c0 c1 h.capLe h.capMax (by omega) m5 hix
      · rw [if_neg (by omega)]
        obtain ⟨c2, b2⟩ := h.at_ 1 (by omega)
        obtain ⟨c3, b3⟩ := h.at_ 2 (by omega)
        exact ref_precb ad n cap ix _ _ _ w hlt c0 c1 c2 c3 h.capLe h.capMax (by omega) hix
    rw [if_neg m4]
    exact refB_any ad n cap ix _ l w h (by omega) rfl hix m3 m4
  · have h3 : l.getD 0 0 ≠ 221 := fun k => k2 (.inl k)
    have h4 : l.getD 0 0 ≠ 253 := fun k => k2 (.inr k)
    rw [if_neg h3, if_neg h4]
    exact refE_any ad n cap l w h (by omega) k1 h3 h4
end Go.Proofs.Ytjkakmmhbciilaa
