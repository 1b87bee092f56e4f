/- Package op: tail, told by the bytes; second. -/
import Derived.Test.YtjkakmmhbciilaaOpG
namespace Go.Proofs.Ytjkakmmhbciilaa
set_option linter.unusedSimpArgs false
set_option linter.unusedVariables false
open Go.RowKit
theorem bcell {W w1 : World} (hb : Below W.heap.size W w1) : (∀ b o, b < W.heap.size → w1.cell? ⟨b, o, none⟩ = W.cell? ⟨b, o, none⟩) ∧ (∀ b o, b < W.heap.size → w1.frozen? ⟨b, o, none⟩ = W.frozen? ⟨b, o, none⟩) :=
  ⟨fun b o h => hb.cell (p := ⟨b, o, none⟩) h, fun b o h => hb.frozen (p := ⟨b, o, none⟩) h⟩
/-- bytes that came in -/
structure Bys (w : World) (ad : Addr) (n cap : Nat) (l : List Int) : Prop where
  cells : Ints w (some ad) .u8 l
  len : l.length = n
  bs : ∀ x ∈ l, B8 x
  capLe : n ≤ cap
  capMax : cap ≤ 9223372036854775807
theorem Bys.at0 {w : World} {ad : Addr} {n cap : Nat} {l : List Int} (h : Bys w ad n cap l) (hj : 0 < n) : w.cell? ad = some (.int .u8 (l.getD 0 0)) ∧ B8 (l.getD 0 0) ∧ ad.block < w.heap.size := by
  obtain ⟨_, e, h1, h2, h3⟩ := at_cell h.cells h.len h.bs hj
  injection e with e; subst e
  exact ⟨h1, h2, h3⟩
theorem Bys.at_ {w : World} {ad : Addr} {n cap : Nat} {l : List Int} (h : Bys w ad n cap l) (j : Nat) (hj : j + 1 < n) : w.cell? ⟨ad.block, ad.off + (j + 1), none⟩ = some (.int .u8 (l.getD (j + 1) 0)) ∧ B8 (l.getD (j + 1) 0) := by
  obtain ⟨_, e, h1, h2, h3⟩ := at_cell h.cells h.len h.bs hj
  injection e with e; subst e
  exact ⟨h1, h2⟩
theorem Bys.lt {w : World} {ad : Addr} {n cap : Nat} {l : List Int} (h : Bys w ad n cap l) (hj : 0 < n) : ad.block < w.heap.size := (h.at0 hj).2.2
theorem Bys.below {w w' : World} {ad : Addr} {n cap : Nat} {l : List Int} (h : Bys w ad n cap l) (hb : Below w.heap.size w w') : Bys w' ad n cap l := ⟨h.cells.below hb, h.len, h.bs, h.capLe, h.capMax⟩
theorem tailA_any (ad : Addr) (n cap : Nat) (l : List Int) (c a : Int) (w : World) (h : Bys w ad n cap l) (h1 : 1 ≤ n) (a0 : 0 ≤ a) (a2 : a ≤ 2) :
    Calls Try.prog 19 #[.slice (some ad) n cap, .agg #[.int .i64 0, .int .i64 0, .int .u8 c, .int .u8 0, .int .u16 0, .int .i64 0], .int .i64 1, .int .i64 a] w (Reads (tailS l ⟨0, 0, c, 0, 0, 0⟩ 1 a.toNat) w) := by
  have hlt := h.lt h1
  have hn := h.len
  have ka : a = 0 ∨ a = 1 ∨ a = 2 := by omega
  rcases ka with rfl | rfl | rfl
  · have e : tailS l ⟨0, 0, c, 0, 0, 0⟩ 1 (0 : Int).toNat = (⟨0, 0, c, 0, 0, 1⟩, true) := by
      simp [tailS, tail2, opnd, hn]; omega
    rw [e]
    exact tailA_0 ad n cap c w hlt h.capLe h.capMax h1
  · by_cases k : n < 2
    · have e : tailS l ⟨0, 0, c, 0, 0, 0⟩ 1 (1 : Int).toNat = (In.z, false) := by
        simp [tailS, tail2, opnd, hn]; omega
      rw [e]
      exact tailA_1n ad n cap c w hlt h.capLe h.capMax h1 k
    · have e : tailS l ⟨0, 0, c, 0, 0, 0⟩ 1 (1 : Int).toNat = (⟨0, 0, c, 0, l.getD 1 0, 2⟩, true) := by
        simp [tailS, tail2, opnd, hn]; omega
      rw [e]
      obtain ⟨g1, b1⟩ := h.at_ 0 (by omega)
      exact tailA_1 ad n cap c _ w hlt g1 b1 h.capLe h.capMax (by omega)
  · by_cases k : n < 3
    · have e : tailS l ⟨0, 0, c, 0, 0, 0⟩ 1 (2 : Int).toNat = (In.z, false) := by
        simp [tailS, tail2, opnd, hn]; omega
      rw [e]
      exact tailA_2n ad n cap c w hlt h.capLe h.capMax h1 k
    · have e : tailS l ⟨0, 0, c, 0, 0, 0⟩ 1 (2 : Int).toNat = (⟨0, 0, c, 0, l.getD 1 0 + 256 * l.getD 2 0, 3⟩, true) := by
        simp [tailS, tail2, opnd, hn]; omega
      rw [e]
      obtain ⟨g1, b1⟩ := h.at_ 0 (by omega)
      obtain ⟨g2, b2⟩ := h.at_ 1 (by omega)
      exact tailA_2 ad n cap c _ _ w hlt g1 b1 g2 b2 h.capLe h.capMax (by omega)
theorem tailD_any (ad : Addr) (n cap : Nat) (l : List Int) (c a : Int) (w : World) (h : Bys w ad n cap l) (h1 : 2 ≤ n) (ha : a = 0 ∨ a = 2) :
    Calls Try.prog 19 #[.slice (some ad) n cap, .agg #[.int .i64 2, .int .i64 0, .int .u8 c, .int .u8 0, .int .u16 0, .int .i64 0], .int .i64 2, .int .i64 a] w (Reads (tailS l ⟨2, 0, c, 0, 0, 0⟩ 2 a.toNat) w) := by
  have hlt := h.lt (by omega)
  have hn := h.len
  rcases ha with rfl | rfl
  · have e : tailS l ⟨2, 0, c, 0, 0, 0⟩ 2 (0 : Int).toNat = (⟨2, 0, c, 0, 0, 2⟩, true) := by
      simp [tailS, tail2, opnd, hn]; omega
    rw [e]
    exact tailD_0 ad n cap c w hlt h.capLe h.capMax h1
  · by_cases k : n < 4
    · have e : tailS l ⟨2, 0, c, 0, 0, 0⟩ 2 (2 : Int).toNat = (In.z, false) := by
        simp [tailS, tail2, opnd, hn]; omega
      rw [e]
      exact tailD_2n ad n cap c w hlt h.capLe h.capMax h1 k
    · have e : tailS l ⟨2, 0, c, 0, 0, 0⟩ 2 (2 : Int).toNat = (⟨2, 0, c, 0, l.getD 2 0 + 256 * l.getD 3 0, 4⟩, true) := by
        simp [tailS, tail2, opnd, hn]; omega
      rw [e]
      obtain ⟨g1, b1⟩ := h.at_ 1 (by omega)
      obtain ⟨g2, b2⟩ := h.at_ 2 (by omega)
      exact tailD_2 ad n cap c _ _ w hlt g1 b1 g2 b2 h.capLe h.capMax (by omega)
theorem tailB_any (ad : Addr) (n cap : Nat) (l : List Int) (c ix a : Int) (w : World) (h : Bys w ad n cap l) (h1 : 2 ≤ n) (hix : 0 < ix) (hc0 : 0 ≤ c) (hc1 : c ≤ 255) (a0 : 0 ≤ a) (a2 : a ≤ 2) :
    Calls Try.prog 19 #[.slice (some ad) n cap, .agg #[.int .i64 0, .int .i64 ix, .int .u8 c, .int .u8 0, .int .u16 0, .int .i64 0], .int .i64 2, .int .i64 a] w (Reads (tailS l ⟨0, ix, c, 0, 0, 0⟩ 2 a.toNat) w) := by
  have hlt := h.lt (by omega)
  have hn := h.len
  have ka : a = 0 ∨ a = 1 ∨ a = 2 := by omega
  cases hm : Mi.memS c with
  | false =>
    rcases ka with rfl | rfl | rfl
    · have e : tailS l ⟨0, ix, c, 0, 0, 0⟩ 2 (0 : Int).toNat = (⟨0, ix, c, 0, 0, 2⟩, true) := by
        simp [tailS, tail2, opnd, hn, hm]; omega
      rw [e]
      exact tailB_0 ad n cap c ix w hlt hix hc0 hc1 hm h.capLe h.capMax h1
    · by_cases k : n < 3
      · have e : tailS l ⟨0, ix, c, 0, 0, 0⟩ 2 (1 : Int).toNat = (In.z, false) := by
          simp [tailS, tail2, opnd, hn, hm]; omega
        rw [e]
        exact tailB_1n ad n cap c ix w hlt hix hc0 hc1 hm h.capLe h.capMax h1 k
      · have e : tailS l ⟨0, ix, c, 0, 0, 0⟩ 2 (1 : Int).toNat = (⟨0, ix, c, 0, l.getD 2 0, 3⟩, true) := by
          simp [tailS, tail2, opnd, hn, hm]; omega
        rw [e]
        obtain ⟨g1, b1⟩ := h.at_ 1 (by omega)
        exact tailB_1 ad n cap c ix _ w hlt hix hc0 hc1 hm g1 b1 h.capLe h.capMax (by omega)
    · by_cases k : n < 4
      · have e : tailS l ⟨0, ix, c, 0, 0, 0⟩ 2 (2 : Int).toNat = (In.z, false) := by
          simp [tailS, tail2, opnd, hn, hm]; omega
        rw [e]
        exact tailB_2n ad n cap c ix w hlt hix hc0 hc1 hm h.capLe h.capMax h1 k
      · have e : tailS l ⟨0, ix, c, 0, 0, 0⟩ 2 (2 : Int).toNat = (⟨0, ix, c, 0, l.getD 2 0 + 256 * l.getD 3 0, 4⟩, true) := by
          simp [tailS, tail2, opnd, hn, hm]; omega
        rw [e]
        obtain ⟨g1, b1⟩ := h.at_ 1 (by omega)
        obtain ⟨g2, b2⟩ := h.at_ 2 (by omega)
        exact tailB_2 ad n cap c ix _ _ w hlt hix hc0 hc1 hm g1 b1 g2 b2 h.capLe h.capMax (by omega)
  | true =>
    by_cases k3 : n < 3
    · have e : tailS l ⟨0, ix, c, 0, 0, 0⟩ 2 a.toNat = (In.z, false) := by
        simp [tailS, tail2, opnd, hn, hm, hix]; omega
      obtain rfl : n = 2 := by omega
      rw [e]
      obtain ⟨k, rfl⟩ := Int.eq_ofNat_of_zero_le a0
      exact tailC_n ad cap k c ix w hix hc0 hc1 hm
    obtain ⟨gd, bd⟩ := h.at_ 1 (by omega)
    have n3 : ¬ n ≤ 2 := by omega
    rcases ka with rfl | rfl | rfl
    · have e : tailS l ⟨0, ix, c, 0, 0, 0⟩ 2 (0 : Int).toNat = (⟨0, ix, c, l.getD 2 0, 0, 3⟩, true) := by
        simp [tailS, tail2, opnd, hn, hm, hix, n3]; omega
      rw [e]
      exact tailC_0 ad n cap c ix _ w hlt hix hc0 hc1 hm gd bd h.capLe h.capMax (by omega)
    · by_cases k : n < 4
      · have e : tailS l ⟨0, ix, c, 0, 0, 0⟩ 2 (1 : Int).toNat = (In.z, false) := by
          simp [tailS, tail2, opnd, hn, hm, hix, n3]; omega
        rw [e]
        exact tailC_1n ad n cap c ix _ w hlt hix hc0 hc1 hm gd bd h.capLe h.capMax (by omega) k
      · have e : tailS l ⟨0, ix, c, 0, 0, 0⟩ 2 (1 : Int).toNat = (⟨0, ix, c, l.getD 2 0, l.getD 3 0, 4⟩, true) := by
          simp [tailS, tail2, opnd, hn, hm, hix, n3]; omega
        rw [e]
        obtain ⟨g1, b1⟩ := h.at_ 2 (by omega)
        exact tailC_1 ad n cap c ix _ _ w hlt hix hc0 hc1 hm gd bd g1 b1 h.capLe h.capMax (by omega)
    · by_cases k : n < 5
      · have e : tailS l ⟨0, ix, c, 0, 0, 0⟩ 2 (2 : Int).toNat = (In.z, false) := by
          simp [tailS, tail2, opnd, hn, hm, hix, n3]; omega
        rw [e]
        exact tailC_2n ad n cap c ix _ w hlt hix hc0 hc1 hm gd bd h.capLe h.capMax (by omega) k
      · have e : tailS l ⟨0, ix, c, 0, 0, 0⟩ 2 (2 : Int).toNat = (⟨0, ix, c, l.getD 2 0, l.getD 3 0 + 256 * l.getD 4 0, 5⟩, true) := by
          simp [tailS, tail2, opnd, hn, hm, hix, n3]; omega
        rw [e]
        obtain ⟨g1, b1⟩ := h.at_ 2 (by omega)
        obtain ⟨g2, b2⟩ := h.at_ 3 (by omega)
        exact tailC_2 ad n cap c ix _ _ _ w hlt hix hc0 hc1 hm gd bd g1 b1 g2 b2 h.capLe h.capMax (by omega)
end Go.Proofs.Ytjkakmmhbciilaa
