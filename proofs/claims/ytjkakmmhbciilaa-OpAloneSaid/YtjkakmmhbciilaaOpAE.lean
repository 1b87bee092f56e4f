/- The law OpAlone: its cases put together. -/
import Derived.Test.YtjkakmmhbciilaaOpAD
namespace Go.Proofs.Ytjkakmmhbciilaa
set_option linter.unusedSimpArgs false
set_option linter.unusedVariables false
open Go.RowKit
theorem getD_take (l l2 : List Int) (q j : Nat) (hq : q ≤ l.length) (hj : j < q) : (l.take q ++ l2).getD j 0 = l.getD j 0 := by
  rw [List.getD_eq_getElem?_getD, List.getD_eq_getElem?_getD, List.getElem?_append_left (by rw [List.length_take]; omega), List.getElem?_take, if_pos hj]
theorem getD_take0 (l : List Int) (q j : Nat) (hj : j < q) : (l.take q).getD j 0 = l.getD j 0 := by
  rw [List.getD_eq_getElem?_getD, List.getD_eq_getElem?_getD, List.getElem?_take, if_pos hj]
theorem opAlone_any (A : Option Addr) (n cap : Nat) (l : List Int) (A2 : Option Addr) (n2 c2 : Nat) (l2 : List Int) (w : World) (h : Byt w A n cap l) (h2 : Byt w A2 n2 c2 l2) :
    Calls Try.prog 7 #[.slice A n cap, .slice A2 n2 c2] w (Yes w) := by
  by_cases k1 : (1000 : Int) < n
  · exact alone_long A n cap A2 n2 c2 w (.inl k1)
  by_cases k2 : (1000 : Int) < n2
  · exact alone_long A n cap A2 n2 c2 w (.inr k2)
  have hr := h.read
  have hn := h.len
  rcases readS_tells l h.bs with ⟨ix, e, h1⟩ | ⟨hs, t⟩
  · rw [e] at hr
    obtain ⟨ad, rfl, -, -, -⟩ := at_cell (j := 0) h.cells hn h.bs (by omega)
    obtain ⟨R, hR⟩ : ∃ R, R = readS (l.take 1 ++ l2) := ⟨_, rfl⟩
    obtain ⟨⟨s2, i2, c3, d2, m2, ln2⟩, ok2⟩ := R
    exact alone_four ad n cap l A2 n2 c2 l2 ix s2 i2 c3 d2 m2 ln2 ok2 w k1 k2 (by omega) h h2 hr (fun w' A' n' c' y => by
      have := y.read
      rw [← hR] at this
      exact this)
  · obtain ⟨R, hR⟩ : ∃ R, R = readS l := ⟨_, rfl⟩
    rw [← hR] at hr hs t
    obtain ⟨r, ok⟩ := R
    cases ok with
    | false =>
      obtain ⟨e, h4⟩ := t.no rfl
      have e : r = In.z := e
      subst e
      exact alone_no A n cap A2 n2 c2 w k1 k2 (by omega) hr
    | true =>
      obtain ⟨y1, y2, y3⟩ := t.yes rfl
      have y1 : ((1 : Nat) : Int) ≤ r.len := y1
      have y2 : r.len ≤ ((4 : Nat) : Int) := y2
      have y3 : r.len ≤ (l.length : Int) := y3
      obtain ⟨q, hq⟩ : ∃ q : Nat, r.len = (q : Int) := ⟨r.len.toNat, by omega⟩
      obtain ⟨ad, rfl, -, -, -⟩ := at_cell (j := 0) h.cells hn h.bs (by omega)
      have same : readS (l.take q ++ l2) = (r, true) := t.same rfl _ (by
        show r.len ≤ _
        rw [hq, List.length_append, List.length_take]; omega) (fun j hj => by
        have hj : (j : Int) < r.len := hj
        exact getD_take l l2 q j (by omega) (by omega))
      obtain ⟨R3, hR3⟩ : ∃ R, R = readS (l.take (q - 1)) := ⟨_, rfl⟩
      have less : R3.2 = false := by
        rw [hR3]
        exact t.less rfl _ (by
          show _ < r.len
          rw [hq, List.length_take]; omega) (fun j hj => getD_take0 l (q - 1) j (by rw [List.length_take] at hj; omega))
      obtain ⟨⟨s3, i3, c3, d3, m3, ln3⟩, ok3⟩ := R3
      have less : ok3 = false := less
      subst less
      obtain ⟨s, i, c, d, m, ln⟩ := r
      have hq : ln = (q : Int) := hq
      subst hq
      have hs : s ≠ 4 := hs
      exact alone_ok ad n cap l A2 n2 c2 l2 s i c d m s3 i3 c3 d3 m3 ln3 q (q - 1) w k1 k2 (by omega) (by omega) (by simp [hs]) (by omega) h h2 hr (fun w' A' n' c' y => by
        have := y.read
        rw [same] at this
        exact this) (fun w' A' n' c' y => by
        have := y.read
        rw [← hR3] at this
        exact this)
end Go.Proofs.Ytjkakmmhbciilaa
