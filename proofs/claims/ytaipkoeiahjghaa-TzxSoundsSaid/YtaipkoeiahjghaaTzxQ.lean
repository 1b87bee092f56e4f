/- The blocks that the law builds. -/
import Derived.Test.YtaipkoeiahjghaaTzxP
namespace Go.Proofs.Ytaipkoeiahjghaa
set_option linter.unusedSimpArgs false
set_option linter.unusedVariables false
open Go.RowKit
theorem own_kept_none {w w' : World} {base n size : Nat} {e : TypeId} {v : Value} {xs : List Value} (h : w.ownsRow base e size v n xs) (hb : Below w.heap.size w w') : w'.ownsRow base e size v n xs :=
  h.kept (row := none) (grownBy_below hb) (by cases v.ownBlock <;> simp)
/-- rows of two kinds lie in two blocks -/
theorem own_apart {w : World} {b1 b2 n1 n2 s1 s2 : Nat} {e1 e2 : TypeId} {v1 v2 : Value} {xs1 xs2 : List Value} (h1 : w.ownsRow b1 e1 s1 v1 n1 xs1) (h2 : w.ownsRow b2 e2 s2 v2 n2 xs2) (hne : e1 ≠ e2) : v1.ownBlock = none ∨ v1.ownBlock ≠ v2.ownBlock := by
  rcases h1.2 with ⟨rfl, _⟩ | ⟨g1, c1, cur1, rfl, _, hg1, _⟩
  · exact .inl rfl
  · rcases h2.2 with ⟨rfl, _⟩ | ⟨g2, c2, cur2, rfl, _, hg2, _⟩
    · right; simp [Value.ownBlock]
    · right
      intro e
      simp [Value.ownBlock] at e
      subst e
      rw [hg1] at hg2
      injection hg2 with hg2
      injection hg2 with _ hg2 _
      exact hne hg2
def itemRow (x : Int) : List Value := [.int .i64 x, .slice none 0 0]
/-- the blocks' cells -/
def flatB : List Int → List (Value × Value) → List Value
  | id :: ids, (ta, ia) :: rows => blkRow id ta ia ++ flatB ids rows
  | _, _ => []
theorem flatB_len (ids : List Int) (rows : List (Value × Value)) (h : rows.length ≤ ids.length) : (flatB ids rows).length = rows.length * 18 := by
  induction rows generalizing ids with
  | nil => cases ids <;> rfl
  | cons r rows ih =>
    cases ids with
    | nil => simp at h
    | cons id ids =>
      obtain ⟨ta, ia⟩ := r
      simp only [flatB, List.length_append, List.length_cons]
      rw [ih ids (by simpa using h)]
      simp [blkRow]; omega
theorem flatB_get (ids : List Int) (rows : List (Value × Value)) (i j : Nat) (id : Int) (ta ia : Value) (hi : ids[i]? = some id) (hr : rows[i]? = some (ta, ia)) (hj : j < 18) : (flatB ids rows)[i * 18 + j]? = (blkRow id ta ia)[j]? := by
  induction rows generalizing ids i with
  | nil => simp at hr
  | cons r rows ih =>
    cases ids with
    | nil => simp at hi
    | cons id' ids =>
      obtain ⟨ta', ia'⟩ := r
      cases i with
      | zero =>
        simp at hi hr
        obtain ⟨rfl, rfl⟩ := hr
        subst hi
        simp only [flatB]
        rw [List.getElem?_append_left (by simp [blkRow]; omega)]
        congr 1
        omega
      | succ i =>
        simp only [flatB]
        have hl : (blkRow id' ta' ia').length = 18 := rfl
        rw [List.getElem?_append_right (by rw [hl]; omega), hl, show (i + 1) * 18 + j - 18 = i * 18 + j by omega]
        exact ih ids i (by simpa using hi) (by simpa using hr)
theorem flatB_snoc (ids : List Int) (rows : List (Value × Value)) (id : Int) (ta ia : Value) (hi : ids[rows.length]? = some id) : flatB ids (rows ++ [(ta, ia)]) = flatB ids rows ++ blkRow id ta ia := by
  induction rows generalizing ids with
  | nil =>
    cases ids with
    | nil => simp at hi
    | cons id' ids =>
      simp at hi
      subst hi
      cases ids <;> simp [flatB]
  | cons r rows ih =>
    cases ids with
    | nil => simp at hi
    | cons id' ids =>
      obtain ⟨ta', ia'⟩ := r
      simp only [List.cons_append, flatB]
      rw [ih ids (by simpa using hi), List.append_assoc]
/-- the numbers of one block -/
structure Nums (w : World) (base : Nat) (ta ia : Value) (T : List Int) : Prop where
  t : w.ownsRow base 3 1 ta T.length (T.map (.int .i64 ·))
  i : w.ownsRow base 32 2 ia T.length (T.flatMap itemRow)
theorem Nums.below {w w' : World} {base : Nat} {ta ia : Value} {T : List Int} (h : Nums w base ta ia T) (hb : Below w.heap.size w w') : Nums w' base ta ia T := ⟨own_kept_none h.t hb, own_kept_none h.i hb⟩
theorem Nums.base {w : World} {b b' : Nat} {ta ia : Value} {T : List Int} (h : Nums w b ta ia T) (hb : b' ≤ b) : Nums w b' ta ia T := by
  refine ⟨⟨h.t.1, ?_⟩, ⟨h.i.1, ?_⟩⟩
  · rcases h.t.2 with h0 | ⟨g, c, cur, h1, h2, h3⟩
    · exact .inl h0
    · exact .inr ⟨g, c, cur, h1, by omega, h3⟩
  · rcases h.i.2 with h0 | ⟨g, c, cur, h1, h2, h3⟩
    · exact .inl h0
    · exact .inr ⟨g, c, cur, h1, by omega, h3⟩
/-- so many blocks lie in a list of the call's own -/
structure Laid (w : World) (base : Nat) (ids T : List Int) (v : Value) (rows : List (Value × Value)) : Prop where
  own : w.ownsRow base 30 18 v rows.length (flatB ids rows)
  nums : ∀ ta ia, (ta, ia) ∈ rows → Nums w base ta ia T
theorem Laid.below {w w' : World} {base : Nat} {ids T : List Int} {v : Value} {rows : List (Value × Value)} (h : Laid w base ids T v rows) (hb : Below w.heap.size w w') : Laid w' base ids T v rows :=
  ⟨own_kept_none h.own hb, fun ta ia hm => (h.nums ta ia hm).below hb⟩
theorem Nums.grown {w w' : World} {base b2 n : Nat} {ta ia v : Value} {T : List Int} {xs : List Value} (h : Nums w base ta ia T) (ho : w.ownsRow b2 30 18 v n xs) (hg : w.grownBy w' v.ownBlock) : Nums w' base ta ia T :=
  ⟨h.t.kept hg (own_apart h.t ho (by decide)), h.i.kept hg (own_apart h.i ho (by decide))⟩
theorem Laid.snoc {w w' : World} {base : Nat} {ids T : List Int} {v v' : Value} {rows : List (Value × Value)} {id : Int} {ta ia : Value} (h : Laid w base ids T v rows) (hn : Nums w base ta ia T) (hid : ids[rows.length]? = some id)
    (ho : w'.ownsRow base 30 18 v' (rows.length + 1) (flatB ids rows ++ blkRow id ta ia)) (hg : w.grownBy w' v.ownBlock) : Laid w' base ids T v' (rows ++ [(ta, ia)]) := by
  refine ⟨?_, ?_⟩
  · rw [flatB_snoc ids rows id ta ia hid, List.length_append]
    exact ho
  · intro ta' ia' hm
    rcases List.mem_append.1 hm with hm | hm
    · exact (h.nums ta' ia' hm).grown h.own hg
    · simp at hm
      obtain ⟨rfl, rfl⟩ := hm
      exact hn.grown h.own hg
theorem times_of_own {w : World} {base : Nat} {ta : Value} {T : List Int} (h : w.ownsRow base 3 1 ta T.length (T.map (.int .i64 ·))) : TimesAt w ta T ∧ ta.oneCell' = true := by
  rcases h.2 with ⟨rfl, h0⟩ | ⟨g, c, cur, rfl, h1, h2, h3⟩
  · have : T = [] := List.eq_nil_of_length_eq_zero h0
    subst this
    exact ⟨⟨none, 0, rfl, fun i v hi => by simp at hi, fun _ => ⟨rfl, rfl⟩⟩, rfl⟩
  · exact ⟨⟨some ⟨g, 0, none⟩, c, rfl, fun i v hi => ⟨_, rfl, h.cells (g := g) rfl i v hi⟩, fun e => by simp at e⟩, rfl⟩
theorem flatItem_get (T : List Int) (k j : Nat) (x : Int) (hx : T[k]? = some x) (hj : j < 2) : (T.flatMap itemRow)[k * 2 + j]? = (itemRow x)[j]? := by
  induction T generalizing k with
  | nil => simp at hx
  | cons y T ih =>
    rw [List.flatMap_cons]
    cases k with
    | zero =>
      simp at hx
      subst hx
      rw [List.getElem?_append_left (by simp [itemRow]; omega)]
      congr 1
      omega
    | succ k =>
      have hl : (itemRow y).length = 2 := rfl
      rw [List.getElem?_append_right (by rw [hl]; omega), hl, show (k + 1) * 2 + j - 2 = k * 2 + j by omega]
      exact ih k (by simpa using hx)
theorem items_of_own {w : World} {base : Nat} {ia : Value} {T : List Int} (h : w.ownsRow base 32 2 ia T.length (T.flatMap itemRow)) : ItemsAt w ia T ∧ ia.oneCell' = true := by
  rcases h.2 with ⟨rfl, h0⟩ | ⟨g, c, cur, rfl, h1, h2, h3⟩
  · have : T = [] := List.eq_nil_of_length_eq_zero h0
    subst this
    exact ⟨⟨0, 0, .inl ⟨rfl, none, rfl⟩⟩, rfl⟩
  · refine ⟨⟨g, c, .inr ⟨rfl, fun k x hk j v hj => ?_⟩⟩, rfl⟩
    have hj2 : j < 2 := by
      have := (List.getElem?_eq_some_iff.1 hj).1
      simpa using this
    have := h.cells (g := g) rfl (k * 2 + j) v (by rw [flatItem_get T k j x hk hj2]; exact hj)
    rw [Addr.add_mid, Nat.zero_add] at this
    exact this
/-- what the list is, at the end -/
theorem Laid.blks {w : World} {base n : Nat} {ids T : List Int} {v : Value} {rows : List (Value × Value)} (h : Laid w base ids T v rows) (hn : ids.length = n) (hr : rows.length = n) : ∃ (g : Nat) (A : Option Addr) (c : Nat), v = .slice A n c ∧ (n = 0 ∨ A = some ⟨g, 0, none⟩) ∧ Blks w g ids T := by
  rcases h.own.2 with ⟨rfl, h0⟩ | ⟨g, c, cur, rfl, h1, h2, h3⟩
  · have e : n = 0 := by omega
    subst e
    have : ids = [] := List.eq_nil_of_length_eq_zero hn
    subst this
    exact ⟨0, none, 0, rfl, .inl rfl, fun i id hi => by simp at hi⟩
  · refine ⟨g, _, c, by rw [hr], .inr rfl, fun i id hi => ?_⟩
    have hi2 : i < rows.length := by
      have := (List.getElem?_eq_some_iff.1 hi).1
      omega
    obtain ⟨ta, ia, hti⟩ : ∃ ta ia, rows[i]? = some (ta, ia) := ⟨rows[i].1, rows[i].2, by rw [List.getElem?_eq_getElem hi2]⟩
    have hm := h.nums ta ia (List.mem_of_getElem? hti)
    obtain ⟨t1, t2⟩ := times_of_own hm.t
    obtain ⟨i1, i2⟩ := items_of_own hm.i
    refine ⟨ta, ia, fun j u hj => ?_, t1, i1, t2, i2⟩
    have hj2 : j < 18 := by
      have := (List.getElem?_eq_some_iff.1 hj).1
      simpa [blkRow] using this
    have := h.own.cells (g := g) rfl (i * 18 + j) u (by rw [flatB_get ids rows i j id ta ia hi hti hj2]; exact hj)
    rw [Addr.add_mid, Nat.zero_add] at this
    exact this
end Go.Proofs.Ytaipkoeiahjghaa
