/- ReelMakes: the law's body. -/
import Derived.Test.YtoejmjhfecppcaaRelU
namespace Go.Proofs.Ytoejmjhfecppcaa
set_option linter.unusedSimpArgs false
set_option linter.unusedVariables false
open Go.RowKit Go.Sort
/-- what the document says of a recording -/
def OutR (hb : Bool) (g : List Int) (a b r : Int) (L : List BlkL) : Prop :=
  ((0 : Int) ∈ g ∧ a = 0 ∧ b = 0 ∧ r = 5 ∧ L = []) ∨
  ((0 : Int) ∉ g ∧ posA (fullL g) 4095 < (fullL g).length ∧ a = 0 ∧ b = 0 ∧ r = 8 ∧ L = []) ∨
  ((0 : Int) ∉ g ∧ ∃ K, K ≤ 4095 ∧ posA (fullL g) K = (fullL g).length ∧ (∀ j, j < K → posA (fullL g) j < (fullL g).length) ∧ a = 1 ∧ b = 20 ∧ r = 0 ∧ L = blksA (usedOf hb) (fullL g) K)
theorem posA_mono (L : List Int) (a d : Nat) : posA L a ≤ posA L (a + d) := by
  induction d with
  | zero => exact Nat.le_refl _
  | succ d ih => rw [← Nat.add_assoc]; simp only [posA]; omega
theorem OutR.one {hb : Bool} {g : List Int} {a b r a' b' r' : Int} {L L' : List BlkL} (h : OutR hb g a b r L) (h' : OutR hb g a' b' r' L') : a = a' ∧ b = b' ∧ r = r' ∧ L = L' := by
  rcases h with ⟨h1, rfl, rfl, rfl, rfl⟩ | ⟨h1, h2, rfl, rfl, rfl, rfl⟩ | ⟨h1, K, h2, h3, h4, rfl, rfl, rfl, rfl⟩ <;>
  rcases h' with ⟨k1, rfl, rfl, rfl, rfl⟩ | ⟨k1, k2, rfl, rfl, rfl, rfl⟩ | ⟨k1, K', k2, k3, k4, rfl, rfl, rfl, rfl⟩
  · exact ⟨rfl, rfl, rfl, rfl⟩
  · exact absurd h1 k1
  · exact absurd h1 k1
  · exact absurd k1 h1
  · exact ⟨rfl, rfl, rfl, rfl⟩
  · exfalso
    have := posA_mono (fullL g) K' (4095 - K')
    rw [show K' + (4095 - K') = 4095 by omega] at this
    omega
  · exact absurd k1 h1
  · exfalso
    have := posA_mono (fullL g) K (4095 - K)
    rw [show K + (4095 - K) = 4095 by omega] at this
    omega
  · obtain rfl : K = K' := by
      rcases Nat.lt_trichotomy K K' with e | e | e
      · have := k4 K e; omega
      · exact e
      · have := h4 K' e; omega
    exact ⟨rfl, rfl, rfl, rfl⟩
theorem slB_nil (w : World) : SlB w (.slice none 0 0) [] := ⟨none, 0, 0, rfl, ⟨rfl, by decide⟩, fun i B h => by simp at h⟩
def ExactO (hb : Bool) (g : List Int) (w : World) (e : Ending) (w' : World) : Prop :=
  ∃ (a b r : Int) (A : Option Addr) (n c : Nat) (L : List BlkL), e = .returned (.tuple #[.agg #[.int .i64 a, .int .i64 b, .slice A n c], .int .i64 r]) ∧ OutR hb g a b r L ∧ SlB w' (.slice A n c) L ∧ Below w.heap.size w w'
theorem exactO {hb : Bool} {g : List Int} {w w' : World} {e : Ending} (h : ExactR hb g w e w') : ExactO hb g w e w' := by
  obtain ⟨hB, ⟨h1, rfl⟩ | ⟨h1, h2, rfl⟩ | ⟨h1, K, v, h2, h3, h4, rfl, h5⟩⟩ := h
  · exact ⟨0, 0, 5, none, 0, 0, [], rfl, .inl ⟨h1, rfl, rfl, rfl, rfl⟩, slB_nil _, hB⟩
  · exact ⟨0, 0, 8, none, 0, 0, [], rfl, .inr (.inl ⟨h1, h2, rfl, rfl, rfl, rfl⟩), slB_nil _, hB⟩
  · have h6 := h5
    obtain ⟨A, n, c, rfl, _⟩ := h6
    exact ⟨1, 20, 0, A, n, c, _, rfl, .inr (.inr ⟨h1, K, h2, h3, h4, rfl, rfl, rfl, rfl⟩), h5, hB⟩
set_option maxRecDepth 100000 in
set_option maxHeartbeats 4000000 in
theorem makes_long (hb : Bool) (A : Option Addr) (n c : Nat) (w : World) (hn : 5000 < n) :
    Calls Try.prog 3 #[.bool hb, .slice A n c] w (Yes w) := by
  have hn2 : (5000 : Int) < n := by omega
  have HLV := Lib.hid lives26
  go_enter Try.func3, Try.ntmps3
  go_wp2_with (first
    | (go_at_call 11; refine (HLV.out _).mono ?_; rintro e w3 ⟨rfl, hb3⟩))
  go_ret
  exact ⟨rfl, hb3⟩
set_option maxRecDepth 100000 in
set_option maxHeartbeats 8000000 in
theorem makes_any (hb : Bool) (A : Option Addr) (n c : Nat) (g : List Int) (w : World) (hg : Ints w A .u32 g) (hn : g.length = n) (hm : n ≤ 5000) (hu : ∀ x ∈ g, 0 ≤ x ∧ x ≤ 4294967295) :
    Calls Try.prog 3 #[.bool hb, .slice A n c] w (Yes w) := by
  have hm2 : (n : Int) ≤ 5000 := by omega
  have HLV := Lib.hid lives26
  have HE1 := Lib.hid ((exact_any hb A n c g w hg hn hm hu).mono fun e w' => exactO)
  have HE2 : Hid (∀ u, Below w.heap.size w u → Calls Try.prog 13 #[.bool hb, .slice A n c] u (ExactO hb g u)) := Lib.hid (fun u hb0 => (refexact_any hb A n c g u (hg.below hb0) hn hm hu).mono fun e w' => exactO)
  clear hg hn hu
  go_enter Try.func3, Try.ntmps3
  go_wp2_with (first
    | (go_at_call 12; refine HE1.out.mono ?_; rintro e w1 ⟨a, b, r, A1, n1, c1, L, rfl, ho, hs, hb1⟩; have HO1 := Lib.hid ho; have HS1 := Lib.hid hs; have HB1 := Lib.hid hb1; clear ho hs hb1; have hx1 : Below w.heap.size w (w1.alloc (.cells #[.int .i64 a, .int .i64 b, .slice A1 n1 c1] 26)) := HB1.out.alloc HB1.out.size _; have HX1 := Lib.hid hx1; clear hx1)
    | (go_at_call 13; refine (HE2.out _ HX1.out).mono ?_; rintro e w2 ⟨a2, b2, r2, A2, n2, c2, L2, rfl, ho, hs, hb2⟩; obtain ⟨rfl, rfl, rfl, rfl⟩ := HO1.out.one ho; have T5 := (Blk.new w1 26 [.int .i64 a, .int .i64 b, .slice A1 n1 c1]).below_ hb2; have T6 := T5.alloc (.cells #[.int .i64 a, .int .i64 b, .slice A2 n2 c2] 26); have d0 := T6.cell 0; have d1 := T6.cell 1; have d2 := T6.cell 2; simp only [List.getElem?_cons_zero, List.getElem?_cons_succ] at d0 d1 d2; have HSA := Lib.hid (((HS1.out.below (below_alloc1 w1 (.cells #[.int .i64 a, .int .i64 b, .slice A1 n1 c1] 26))).below hb2).below (below_alloc1 w2 (.cells #[.int .i64 a, .int .i64 b, .slice A2 n2 c2] 26))); have HSB := Lib.hid (hs.below (below_alloc1 w2 (.cells #[.int .i64 a, .int .i64 b, .slice A2 n2 c2] 26))); have HB2 : Hid (Below w.heap.size w w2) := Lib.hid (HX1.out.trans (hb2.mono HX1.out.size)); clear ho hs hb2 T5 T6)
    | (go_at_call 14; refine (tape_same a b _ _ L _ HSA.out HSB.out).mono ?_; rintro e w3 ⟨rfl, hb3⟩; have HB3 : Hid (Below w.heap.size w w3) := Lib.hid ((HB2.out.alloc HB2.out.size _).trans (hb3.mono (Nat.le_trans HB2.out.size (by simp)))); clear hb3)
    | (go_at_call 11; refine (HLV.out _).mono ?_; rintro e w4 ⟨rfl, hb4⟩))
  go_ret
  exact ⟨rfl, HB3.out.trans (hb4.mono HB3.out.size)⟩
theorem u32_wf {n : Int} (h : (Lit.int .u32 n).wf = true) : 0 ≤ n ∧ n ≤ 4294967295 := by
  simp [Lit.wf, IntKind.min, IntKind.max, IntKind.bits, IntKind.signed] at h
  exact ⟨by omega, by omega⟩
end Go.Proofs.Ytoejmjhfecppcaa
