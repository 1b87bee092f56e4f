/- Texts that are laid together: G49. -/
import Derived.Test.YtokidpajialgbaaQRdZ
import Derived.Test.YtokidpajialgbaaQG45
namespace Go.Proofs.Ytokidpajialgbaa
set_option linter.unusedSimpArgs false
set_option linter.unusedVariables false
open Go.RowKit
theorem parse_any (A : Option Addr) (n c : Nat) (L : List Int) (w : World) (hi : Ints w A .u8 L) (hb : Byts L) (hn : L.length = n) (hc : n ≤ c) : Calls Try.prog 17 #[.slice A n c] w (ParsP L w) := by
  rcases Nat.lt_or_ge 1048576 n with h1 | h1
  · exact parse_long A n c L w hn h1
  rcases Nat.lt_or_ge n 8 with h2 | h2
  · exact parse_short A n c L w hn h2
  by_cases h3 : L.take 8 = Rd.sign8
  · obtain ⟨v, h4⟩ : ∃ v, L[0]? = some v := ⟨_, List.getElem?_eq_getElem (by omega)⟩
    obtain ⟨ad, rfl, hcell⟩ := hi 0 (.int .u8 v) (by simp [h4])
    exact parse_signed ad n c L w hi hb hn h2 h1 hc (block_lt_of_cell hcell) h3
  · exact parse_unsigned A n c L w hi hb hn h2 h1 hc h3
end Go.Proofs.Ytokidpajialgbaa
namespace Go.Proofs.Ytokidpajialgbaa
set_option linter.unusedSimpArgs false
set_option linter.unusedVariables false
open Go.RowKit
/-- a block's numbers fit their kinds -/
structure BWf (B : TB) : Prop where
  n : ∀ x ∈ B.nums, (Lit.int .i64 x).wf = true
  d : ∀ x ∈ B.data, (Lit.int .u8 x).wf = true
  t : ∀ x ∈ B.times, (Lit.int .i64 x).wf = true
  i : ∀ x ∈ B.items, (Lit.int .i64 x.1).wf = true ∧ ∀ y ∈ x.2, (Lit.int .u8 y).wf = true
  p : ∀ x ∈ B.pilots, (Lit.int .i64 x.1).wf = true ∧ ∀ y ∈ x.2, (Lit.int .i64 y).wf = true
  s : ∀ x ∈ B.syms, (Lit.int .i64 x.1).wf = true ∧ ∀ y ∈ x.2, (Lit.int .i64 y).wf = true
  r : ∀ x ∈ B.reps, (Lit.int .i64 x.1).wf = true ∧ (Lit.int .i64 x.2).wf = true
theorem PairsV.wf {w : World} {k : IntKind} {v : Value} {l : List (Int × List Int)} (h : PairsV w k v l) : ∀ x ∈ l, (Lit.int .i64 x.1).wf = true ∧ ∀ y ∈ x.2, (Lit.int k y).wf = true := fun x hx => by
  obtain ⟨A, c, -, -, -, h4⟩ := h
  obtain ⟨j, hj⟩ := List.getElem?_of_mem hx
  obtain ⟨h5, g, o, rv, -, -, ⟨_, _, -, -, -, -, h6⟩⟩ := h4 j x hj
  exact ⟨h5, h6⟩
theorem TBV.bwf {w : World} {cs : List Value} {B : TB} (h : TBV w cs B) : BWf B := by
  obtain ⟨hw, d, t, i, p, s, r, -, ⟨_, _, -, -, -, -, hd⟩, ⟨_, _, -, -, -, -, ht⟩, hi, hp, hs, ⟨_, _, -, -, -, hr⟩⟩ := h
  refine ⟨hw, hd, ht, hi.wf, hp.wf, hs.wf, fun x hx => ?_⟩
  obtain ⟨j, hj⟩ := List.getElem?_of_mem hx
  obtain ⟨h5, h6, -⟩ := hr j x hj
  exact ⟨h5, h6⟩
theorem BlksV.bwf {w : World} {v : Value} {l : List TB} (h : BlksV w v l) : ∀ B ∈ l, BWf B := fun B hB => by
  obtain ⟨A, c, -, -, -, h4⟩ := h
  obtain ⟨j, hj⟩ := List.getElem?_of_mem hB
  obtain ⟨g, o, cs, -, -, h7⟩ := h4 j B hj
  exact h7.bwf
/-- a row of the call's own, read cell by cell -/
theorem own_row {w : World} {base size n : Nat} {e : TypeId} {v : Value} {xs : List Value} (h : w.ownsRow base e size v n xs) : ∃ A c, v = .slice A n c ∧ n ≤ c ∧ c ≤ maxLen ∧ (n = 0 ∨ ∃ g, A = some ⟨g, 0, none⟩ ∧ ∀ j u, xs[j]? = some u → w.cell? ⟨g, j, none⟩ = some u) := by
  rcases h.2 with ⟨rfl, rfl⟩ | ⟨g, c, cur, rfl, h2, h3, h4, h5, h6, h7⟩
  · exact ⟨none, 0, rfl, Nat.le_refl _, Nat.zero_le _, .inl rfl⟩
  · refine ⟨some ⟨g, 0, none⟩, c, rfl, h4, h5, .inr ⟨g, rfl, fun j u hj => ?_⟩⟩
    rw [cell_of_row _ _ _ _ _ _ h3, ← Array.getElem?_toList]
    rw [← h7, List.getElem?_take] at hj
    split at hj
    · exact hj
    · cases hj
theorem rowV_own {w : World} {X : Option Nat} {e : TypeId} {k : IntKind} {v : Value} {l : List Int} (h : OwnH w X e 1 v l.length (l.map (.int k ·))) (hw : ∀ x ∈ l, (Lit.int k x).wf = true) : RowV w k v l := by
  obtain ⟨A, c, rfl, h1, h2, h3⟩ := own_row h.1
  refine ⟨A, c, rfl, fun j u hj => ?_, h1, h2, hw⟩
  rcases h3 with h0 | ⟨g, rfl, h4⟩
  · rw [List.eq_nil_of_length_eq_zero h0] at hj; simp at hj
  · exact ⟨_, rfl, by rw [Addr.add_mid, Nat.zero_add]; exact h4 j u hj⟩
theorem symRows_at {w : World} {X : Option Nat} {k : IntKind} : ∀ {cs : List Value} {l : List (Int × List Int)}, SymRowsH w X k cs l → ∀ j x, l[j]? = some x → ∃ rv, cs[j * 2]? = some (.int .i64 x.1) ∧ cs[j * 2 + 1]? = some rv ∧ ∃ e, OwnH w X e 1 rv x.2.length (x.2.map (.int k ·))
  | cs, [], _, j, x, hx => by simp at hx
  | cs, (y, q) :: l, h, j, x, hx => by
    obtain ⟨r', cs', rfl, h1, h2⟩ := h
    cases j with
    | zero =>
      simp at hx
      subst hx
      exact ⟨r', rfl, rfl, _, h1⟩
    | succ j =>
      obtain ⟨rv, a, b, e, c⟩ := symRows_at h2 j x (by simpa using hx)
      refine ⟨rv, ?_, ?_, e, c⟩
      · rw [show (j + 1) * 2 = j * 2 + 1 + 1 by omega]; exact a
      · rw [show (j + 1) * 2 + 1 = j * 2 + 1 + 1 + 1 by omega]; exact b
theorem pairsV_own {w : World} {X : Option Nat} {e : TypeId} {k : IntKind} {v : Value} {l : List (Int × List Int)} (h : SymH w X e k v l) (hw : ∀ x ∈ l, (Lit.int .i64 x.1).wf = true ∧ ∀ y ∈ x.2, (Lit.int k y).wf = true) : PairsV w k v l := by
  obtain ⟨cs, ho, hr⟩ := h
  obtain ⟨A, c, rfl, h1, h2, h3⟩ := own_row ho.1
  refine ⟨A, c, rfl, h1, h2, fun j x hx => ?_⟩
  have hxm := List.mem_of_getElem? hx
  rcases h3 with h0 | ⟨g, rfl, h4⟩
  · rw [List.eq_nil_of_length_eq_zero h0] at hx; simp at hx
  · obtain ⟨rv, a, b, e2, hc⟩ := symRows_at hr j x hx
    refine ⟨(hw x hxm).1, g, 0, rv, rfl, fun i u hi => ?_, rowV_own hc (hw x hxm).2⟩
    rw [Nat.zero_add]
    match i with
    | 0 => simp at hi; subst hi; exact h4 _ _ a
    | 1 => simp at hi; subst hi; exact h4 _ _ b
    | i + 2 => simp at hi
theorem flat2_at : ∀ (l : List (Int × Int)) (j : Nat) (x : Int × Int), l[j]? = some x → (l.flatMap repRow)[j * 2]? = some (.int .i64 x.1) ∧ (l.flatMap repRow)[j * 2 + 1]? = some (.int .i64 x.2)
  | [], j, x, h => by simp at h
  | y :: l, 0, x, h => by simp at h; subst h; exact ⟨rfl, rfl⟩
  | y :: l, j + 1, x, h => by
    have h1 := flat2_at l j x (by simpa using h)
    rw [show (j + 1) * 2 = j * 2 + 1 + 1 by omega]
    exact h1
theorem repsV_own {w : World} {X : Option Nat} {e : TypeId} {v : Value} {l : List (Int × Int)} (h : OwnH w X e 2 v l.length (l.flatMap repRow)) (hw : ∀ x ∈ l, (Lit.int .i64 x.1).wf = true ∧ (Lit.int .i64 x.2).wf = true) : RepsV w v l := by
  obtain ⟨A, c, rfl, h1, h2, h3⟩ := own_row h.1
  refine ⟨A, c, rfl, h1, h2, fun j x hx => ?_⟩
  have hxm := List.mem_of_getElem? hx
  rcases h3 with h0 | ⟨g, rfl, h4⟩
  · rw [List.eq_nil_of_length_eq_zero h0] at hx; simp at hx
  · obtain ⟨a, b⟩ := flat2_at l j x hx
    refine ⟨(hw x hxm).1, (hw x hxm).2, g, 0, rfl, fun i u hi => ?_⟩
    rw [Nat.zero_add]
    match i with
    | 0 => simp at hi; subst hi; exact h4 _ _ a
    | 1 => simp at hi; subst hi; exact h4 _ _ b
    | i + 2 => simp at hi
theorem tbV_held {w : World} {X : Option Nat} {B : TB} {d t i p s r : Value} (h : TB.Held w X B d t i p s r) (hw : BWf B) : TBV w (B.cells d t i p s r) B :=
  ⟨hw.n, d, t, i, p, s, r, rfl, rowV_own h.d hw.d, rowV_own h.t hw.t, pairsV_own h.i hw.i, pairsV_own h.p hw.p, pairsV_own h.s hw.s, repsV_own h.r hw.r⟩
theorem cells_len (B : TB) (d t i p s r : Value) : (B.cells d t i p s r).length = 18 := rfl
theorem tbs_at {w : World} {X : Option Nat} : ∀ {cs : List Value} {l : List TB}, TBs w X cs l → ∀ j B, l[j]? = some B → ∃ d t i p s r, TB.Held w X B d t i p s r ∧ ∀ m u, (B.cells d t i p s r)[m]? = some u → cs[j * 18 + m]? = some u
  | cs, [], _, j, B, hx => by simp at hx
  | cs, B' :: l, h, j, B, hx => by
    obtain ⟨d, t, i, p, s, r, cs', rfl, h1, h2⟩ := h
    cases j with
    | zero =>
      simp at hx
      subst hx
      refine ⟨d, t, i, p, s, r, h1, fun m u hm => ?_⟩
      have hlt := (List.getElem?_eq_some_iff.1 hm).1
      rw [Nat.zero_mul, Nat.zero_add, List.getElem?_append_left hlt]
      exact hm
    | succ j =>
      obtain ⟨d', t', i', p', s', r', a, b⟩ := tbs_at h2 j B (by simpa using hx)
      refine ⟨d', t', i', p', s', r', a, fun m u hm => ?_⟩
      rw [List.getElem?_append_right (by rw [cells_len]; omega), cells_len, show (j + 1) * 18 + m - 18 = j * 18 + m by omega]
      exact b m u hm
/-- a tape that was read -/
theorem blksV_parsed {w : World} {base : Nat} {e : TypeId} {X : Option Nat} {bl : Value} {cs : List Value} {l : List TB} (ho : w.ownsRow base e 18 bl l.length cs) (ht : TBs w X cs l) (hw : ∀ B ∈ l, BWf B) : BlksV w bl l := by
  obtain ⟨A, c, rfl, h1, h2, h3⟩ := own_row ho
  refine ⟨A, c, rfl, h1, h2, fun j B hB => ?_⟩
  rcases h3 with h0 | ⟨g, rfl, h4⟩
  · rw [List.eq_nil_of_length_eq_zero h0] at hB; simp at hB
  · obtain ⟨d, t, i, p, s, r, hh, hc⟩ := tbs_at ht j B hB
    refine ⟨g, 0, _, rfl, fun m u hm => ?_, tbV_held hh (hw B (List.mem_of_getElem? hB))⟩
    rw [Nat.zero_add]
    exact h4 _ _ (hc m u hm)
theorem RowM.cap {w : World} {base n m c : Nat} {A : Option Addr} {xs : List Value} (h : RowM w base (.slice A m c) n xs) : m ≤ c := by
  rcases h with h | ⟨g, fz, e, _⟩
  · rcases h.2 with ⟨e, _⟩ | ⟨g, c', cur, e, _, _, h, _⟩
    · injection e with _ e2 e3; omega
    · injection e with _ e2 e3; omega
  · injection e with _ e2 e3; omega
theorem byts_app {a b : List Int} (ha : Byts a) (hb : Byts b) : Byts (a ++ b) := fun x hx => by
  rcases List.mem_append.1 hx with h | h
  · exact ha x h
  · exact hb x h
theorem byts_flat {α : Type} {f : α → List Int} {l : List α} (h : ∀ x ∈ l, Byts (f x)) : Byts (l.flatMap f) := fun y hy => by
  obtain ⟨x, hx, hy⟩ := List.mem_flatMap.1 hy
  exact h x hx y hy
theorem byts_leB (x : Int) : ∀ k, Byts (leB x k)
  | 0 => fun y hy => by simp [leB] at hy
  | k + 1 => byts_app (byts_leB x k) fun y hy => by simp at hy; subst hy; omega
theorem byts_leL (K : Nat) (l : List Int) : Byts (leL K l) := byts_flat fun x _ => byts_leB x K
theorem byts_wf {l : List Int} (h : ∀ x ∈ l, (Lit.int .u8 x).wf = true) : Byts l := fun x hx => by
  have := h x hx
  simp [Lit.wf, IntKind.min, IntKind.max, IntKind.bits, IntKind.signed] at this
  omega
theorem byts_syms (l : List (Int × List Int)) : Byts (symsL l) := byts_flat fun x _ => byts_app (byts_leB _ _) (byts_leL _ _)
theorem byts_reps (l : List (Int × Int)) : Byts (repsL l) := byts_flat fun x _ => byts_app (byts_leB _ _) (byts_leB _ _)
theorem byts_items (K : Nat) {l : List (Int × List Int)} (h : ∀ x ∈ l, ∀ y ∈ x.2, (Lit.int .u8 y).wf = true) : Byts (itemsL K l) :=
  byts_app (byts_leB _ _) (byts_flat fun x hx => byts_app (byts_leB _ _) (byts_app (byts_leB _ _) (byts_wf (h x hx))))
theorem byts_if {c : Prop} [Decidable c] {a b : List Int} (ha : Byts a) (hb : Byts b) : Byts (if c then a else b) := by split <;> assumption
theorem byts_block {B : TB} (h : BWf B) : Byts (bytB B) := by
  have hd := byts_wf h.d
  have hi : ∀ K, Byts (itemsL K B.items) := fun K => byts_items K fun x hx => (h.i x hx).2
  have ht : Byts (text53 B) := by
    unfold text53
    split
    · exact fun x hx => by simp at hx
    · rename_i x t l e
      exact byts_wf (h.i (x, t) (by rw [e]; simp)).2
  have hg : Byts (genL B) := byts_app (byts_leL _ _) (byts_app (byts_leL _ _) (byts_app (byts_leL _ _) (byts_app (byts_leL _ _) (byts_app (byts_leL _ _) (byts_app (byts_syms _) (byts_app (byts_reps _) (byts_app (byts_syms _) hd)))))))
  have h0 : Byts [] := fun x hx => by simp at hx
  unfold bytB
  refine byts_app (byts_leB _ _) ?_
  split
  · unfold sndL
    repeat' first | exact h0 | exact hd | exact hg | exact byts_leB _ _ | exact byts_leL _ _ | refine byts_if ?_ ?_ | refine byts_app ?_ ?_
  · unfold telL
    repeat' first | exact h0 | exact hd | exact ht | exact hi _ | exact byts_leB _ _ | exact byts_leL _ _ | refine byts_if ?_ ?_ | refine byts_app ?_ ?_
theorem byts_file {maj min : Int} {l : List TB} (h : ∀ B ∈ l, BWf B) : Byts (fileHead maj min ++ l.flatMap bytB) :=
  byts_app (byts_app (by unfold headB; intro x hx; simp at hx; omega) (byts_leL _ _)) (byts_flat fun B hB => byts_block (h B hB))
end Go.Proofs.Ytokidpajialgbaa
