/- Plain laws for the law HuffBack: what is put together, step by step. -/
import Derived.Test.YtoejmjhfecppcaaHuffT
namespace Go.Proofs.Ytoejmjhfecppcaa
open Go.RowKit
namespace Hf
/-- a symbol that has a code -/
def valid (l : List Int) (s : Int) : Bool := decide (0 ≤ s) && decide (s < l.length) && (l.getD s.toNat 0 != 0)
def codeDigs (l : List Int) (s : Int) : List Int := digs (l.getD s.toNat 0).toNat (codeOf l (l.take s.toNat) (l.getD s.toNat 0))
def wantTo (l syms : List Int) (k : Nat) : List Int := (syms.take k).filter (valid l)
def bitsOf (l want : List Int) : List Int := want.flatMap (codeDigs l)
theorem wantTo_hit (l syms : List Int) (k : Nat) (x : Int) (hx : syms[k]? = some x) (h : valid l x = true) : wantTo l syms (k + 1) = wantTo l syms k ++ [x] := by
  unfold wantTo; rw [List.take_add_one, hx, List.filter_append]; simp [h]
theorem wantTo_miss (l syms : List Int) (k : Nat) (x : Int) (hx : syms[k]? = some x) (h : valid l x = false) : wantTo l syms (k + 1) = wantTo l syms k := by
  unfold wantTo; rw [List.take_add_one, hx, List.filter_append]; simp [h]
theorem wantTo_valid (l syms : List Int) (k : Nat) : ∀ x ∈ wantTo l syms k, valid l x = true := fun x hx => (List.mem_filter.1 hx).2
theorem wantTo_len (l syms : List Int) (k : Nat) : (wantTo l syms k).length ≤ k := by
  unfold wantTo
  have h1 := List.length_filter_le (valid l) (syms.take k)
  have h2 : (syms.take k).length ≤ k := List.length_take_le _ _
  omega
theorem bitsOf_snoc (l want : List Int) (x : Int) : bitsOf l (want ++ [x]) = bitsOf l want ++ codeDigs l x := by simp [bitsOf]
theorem valid_iff (l : List Int) (x : Int) (hin : inRange l) : valid l x = true ↔ ∃ s L : Nat, x = s ∧ s < l.length ∧ l.getD s 0 = L ∧ 0 < L ∧ L ≤ 15 := by
  unfold valid
  constructor
  · intro h
    simp at h
    obtain ⟨s, rfl⟩ := Int.eq_ofNat_of_zero_le h.1.1
    have hs : s < l.length := by omega
    have hm : l.getD s 0 ∈ l := by simp [List.getD, List.getElem?_eq_getElem hs]
    have hr := hin _ hm
    have h2 : l.getD s 0 ≠ 0 := by simpa [List.getD] using h.2
    exact ⟨s, (l.getD s 0).toNat, rfl, hs, by omega, by omega, by omega⟩
  · rintro ⟨s, L, rfl, h1, h2, h3, h4⟩
    have : ((s : Int)).toNat = s := by omega
    rw [this, h2]
    simp; omega
theorem bitsOf_len (l : List Int) (hin : inRange l) (want : List Int) (h : ∀ x ∈ want, valid l x = true) : (bitsOf l want).length ≤ 15 * want.length := by
  induction want with
  | nil => simp [bitsOf]
  | cons x w ih =>
    have h1 := ih (fun y hy => h y (by simp [hy]))
    obtain ⟨s, L, rfl, _, h2, _, h3⟩ := (valid_iff l x hin).1 (h x (by simp))
    have h4 : (codeDigs l s).length ≤ 15 := by unfold codeDigs; rw [digs_len, show ((s : Int)).toNat = s from by omega, h2]; omega
    simp only [bitsOf, List.flatMap_cons, List.length_append, List.length_cons] at *
    omega
theorem bitsOf_bits (l want : List Int) : ∀ d ∈ bitsOf l want, d = 0 ∨ d = 1 := by
  intro d hd
  obtain ⟨x, _, hx⟩ := List.mem_flatMap.1 hd
  exact digs_range _ _ d hx
/-- what was put together is read, symbol by symbol -/
theorem read_back (l want : List Int) (he : err l = 0) (hv : ∀ x ∈ want, valid l x = true) (N : Nat) (hN : (bitsOf l want).length ≤ 8 * N) (i : Nat) (x : Int) (hx : want[i]? = some x) :
    ∃ L : Nat, next l (packTo (bitsOf l want) N (bitsOf l want).length) (bitsOf l (want.take i)).length = (x, 0, L) ∧ (bitsOf l (want.take (i + 1))).length = (bitsOf l (want.take i)).length + L ∧ (bitsOf l (want.take (i + 1))).length ≤ (bitsOf l want).length := by
  obtain ⟨h0, h1, hin⟩ := err_room he
  obtain ⟨s, L, rfl, hs, hL, hL0, hL1⟩ := (valid_iff l x hin).1 (hv x (List.mem_of_getElem? hx))
  have hi : i < want.length := (List.getElem?_eq_some_iff.1 hx).1
  have hcd : codeDigs l (s : Int) = digs L (start l L + cnt (l.take s) L) := by
    unfold codeDigs
    rw [show ((s : Int)).toNat = s from by omega, hL, codeOf_pos l _ L hL0]; rfl
  have hsplit : bitsOf l want = bitsOf l (want.take i) ++ (codeDigs l s ++ bitsOf l (want.drop (i + 1))) := by
    have h2 : want = want.take i ++ ((s : Int) :: want.drop (i + 1)) := by
      have h3 := List.take_append_drop i want
      rw [List.drop_eq_getElem_cons hi] at h3
      have h4 : want[i] = (s : Int) := by
        have := List.getElem?_eq_getElem hi
        rw [hx] at this; injection this with this; exact this.symm
      rw [h4] at h3
      exact h3.symm
    conv => lhs; rw [h2]
    simp [bitsOf]
  have hnext : bitsOf l (want.take (i + 1)) = bitsOf l (want.take i) ++ codeDigs l s := by
    rw [List.take_add_one, hx]; exact bitsOf_snoc _ _ _
  have hlen : (bitsOf l want).length = (bitsOf l (want.take i)).length + (L + (bitsOf l (want.drop (i + 1))).length) := by
    have h2 := congrArg List.length hsplit
    rw [List.length_append, List.length_append, hcd, digs_len] at h2
    exact h2
  refine ⟨L, ?_, by rw [hnext, List.length_append, hcd, digs_len], by rw [hnext, List.length_append, hcd, digs_len]; omega⟩
  refine next_hit l _ _ s L he hs hL hL0 (by rw [packTo_len]; omega) (fun j hj => ?_)
  rw [pack_bit _ (bitsOf_bits l want) N _ hN (by omega)]
  have h5 : (bitsOf l want)[(bitsOf l (want.take i)).length + j]? = (digs L (start l L + cnt (l.take s) L))[j]? := by
    conv => lhs; rw [hsplit]
    rw [List.getElem?_append_right (by omega), hcd, List.getElem?_append_left (by rw [digs_len]; omega)]
    congr 1; omega
  simp only [List.getD, h5]
theorem packTo_set (bits : List Int) (N i : Nat) (h : i / 8 < N) : ((packTo bits N i).map (Value.int .u8)).set (i / 8) (.int .u8 (byteTo bits i (i / 8) + bits.getD i 0 * 2 ^ (i % 8))) = (packTo bits N (i + 1)).map (Value.int .u8) := by
  apply List.ext_getElem
  · simp [packTo]
  · intro j h1 h2
    rw [List.getElem_set]
    simp only [packTo, List.getElem_map, List.getElem_range]
    rw [byteTo_succ]
    by_cases e : i / 8 = j
    · subst e; rw [if_pos rfl, if_pos rfl]
    · rw [if_neg e, if_neg e]; simp
theorem packTo_get (bits : List Int) (N i j : Nat) (h : j < N) : ((packTo bits N i).map (Value.int .u8))[j]? = some (.int .u8 (byteTo bits i j)) := by simp [packTo, h]
theorem packTo_range (bits : List Int) (h : ∀ d ∈ bits, d = 0 ∨ d = 1) (N n : Nat) : ∀ x ∈ packTo bits N n, 0 ≤ x ∧ x ≤ 255 := by
  intro x hx
  obtain ⟨q, _, rfl⟩ := List.mem_map.1 hx
  exact byteTo_range bits h n q
end Hf
end Go.Proofs.Ytoejmjhfecppcaa
