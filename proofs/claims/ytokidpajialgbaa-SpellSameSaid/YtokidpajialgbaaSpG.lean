/- spell: what compares lists of items, of symbols. -/
import Derived.Test.YtokidpajialgbaaSpF
import Derived.Deep.Slices
namespace Go.Proofs.Ytokidpajialgbaa
set_option linter.unusedSimpArgs false
set_option linter.unusedVariables false
open Go.RowKit Go.Sort
theorem RowV.one {w : World} {k : IntKind} {v : Value} {l : List Int} (h : RowV w k v l) : v.oneCell' = true := by
  obtain ⟨A, c, rfl, _⟩ := h
  rfl
/-- pairs as elements -/
theorem PairsV.elems {w : World} {k : IntKind} {v : Value} {l : List (Int × List Int)} (h : PairsV w k v l) : ∃ A c E, v = .slice A l.length c ∧ l.length ≤ maxLen ∧ ElemsAt w A 2 l.length E ∧ ∀ i x, l[i]? = some x → ∃ rv, E i = [.int .i64 x.1, rv] ∧ RowV w k rv x.2 := by
  obtain ⟨A, c, hv, h1, h2, h3⟩ := h
  obtain ⟨E, hE⟩ := Go.Deep.choose_lt (α := List Value) (n := l.length) (p := fun i e => ∃ x rv, l[i]? = some x ∧ e = [.int .i64 x.1, rv] ∧ RowV w k rv x.2 ∧ ∃ g o : Nat, A = some ⟨g, o, none⟩ ∧ w.rangeAt g (o + i * 2) [.int .i64 x.1, rv]) (fun i hi => by
    obtain ⟨x, hx⟩ : ∃ x, l[i]? = some x := ⟨_, List.getElem?_eq_getElem hi⟩
    obtain ⟨_, g, o, rv, h4, h5, h6⟩ := h3 i x hx
    exact ⟨[.int .i64 x.1, rv], x, rv, hx, rfl, h6, g, o, h4, h5⟩)
  refine ⟨A, c, E, hv, by omega, fun i hi => ?_, fun i x hx => ?_⟩
  · obtain ⟨x, rv, hx, he, hr, g, o, h4, h5⟩ := hE i hi
    exact ⟨g, o, h4, by rw [he]; exact h5, by rw [he]; rfl, by rw [he]; simp [hr.one]; try rfl⟩
  · obtain ⟨x', rv, hx', he, hr, _⟩ := hE i (List.getElem?_eq_some_iff.1 hx).1
    rw [hx] at hx'
    obtain rfl := Option.some.inj hx'
    exact ⟨rv, he, hr⟩
theorem allK_lists {α : Type} [DecidableEq α] (l1 l2 : List α) : (decide (l1.length = l2.length) && allK (fun i => decide (l1[i]? = l2[i]?)) l1.length) = decide (l1 = l2) := by
  by_cases h : l1 = l2
  · subst h
    rw [decide_eq_true rfl, decide_eq_true rfl, Bool.true_and]
    exact allK_of (fun j _ => decide_eq_true rfl)
  · rw [decide_eq_false h]
    cases he : (decide (l1.length = l2.length) && allK (fun i => decide (l1[i]? = l2[i]?)) l1.length) with
    | false => rfl
    | true =>
      rw [Bool.and_eq_true] at he
      obtain ⟨h1, h2⟩ := he
      refine absurd (lists_eq (of_decide_eq_true h1) (fun j hj => ?_)) h
      unfold allK at h2
      rw [List.all_eq_true] at h2
      exact of_decide_eq_true (h2 j (List.mem_range.2 hj))
theorem opt_pair {a b : Int} {p q : List Int} : decide (some (a, p) = some (b, q)) = decide (a = b ∧ p = q) := by
  by_cases h : a = b ∧ p = q
  · obtain ⟨rfl, rfl⟩ := h; simp
  · rw [decide_eq_false h, decide_eq_false (fun e => h (by injection e with e; injection e with e1 e2; exact ⟨e1, e2⟩))]
theorem eqItems_any (v1 v2 : Value) (l1 l2 : List (Int × List Int)) (w : World) (h1 : PairsV w .u8 v1 l1) (h2 : PairsV w .u8 v2 l2) :
    Calls Try.prog 58 #[v1, v2, .func (.func 59) #[] #[]] w (SaysB (decide (l1 = l2)) w) := by
  obtain ⟨A1, c1, E1, rfl, m1, e1, r1⟩ := h1.elems
  obtain ⟨A2, c2, E2, rfl, m2, e2, r2⟩ := h2.elems
  rw [← allK_lists l1 l2]
  refine eqFuncItems A1 A2 _ _ c1 c2 E1 E2 _ w e1 e2 m1 (fun k hk1 hk2 u hu => ?_)
  obtain ⟨⟨a, p⟩, hx⟩ : ∃ x, l1[k]? = some x := ⟨_, List.getElem?_eq_getElem hk1⟩
  obtain ⟨⟨b, q⟩, hy⟩ : ∃ x, l2[k]? = some x := ⟨_, List.getElem?_eq_getElem hk2⟩
  obtain ⟨rv1, he1, hr1⟩ := r1 k _ hx
  obtain ⟨rv2, he2, hr2⟩ := r2 k _ hy
  rw [he1, he2, hx, hy, opt_pair]
  exact item1_any a b rv1 rv2 p q u (hr1.below hu) (hr2.below hu)
theorem eqSyms_any (v1 v2 : Value) (l1 l2 : List (Int × List Int)) (w : World) (h1 : PairsV w .i64 v1 l1) (h2 : PairsV w .i64 v2 l2) :
    Calls Try.prog 87 #[v1, v2, .func (.func 88) #[] #[]] w (SaysB (decide (l1 = l2)) w) := by
  obtain ⟨A1, c1, E1, rfl, m1, e1, r1⟩ := h1.elems
  obtain ⟨A2, c2, E2, rfl, m2, e2, r2⟩ := h2.elems
  rw [← allK_lists l1 l2]
  refine eqFuncSyms A1 A2 _ _ c1 c2 E1 E2 _ w e1 e2 m1 (fun k hk1 hk2 u hu => ?_)
  obtain ⟨⟨a, p⟩, hx⟩ : ∃ x, l1[k]? = some x := ⟨_, List.getElem?_eq_getElem hk1⟩
  obtain ⟨⟨b, q⟩, hy⟩ : ∃ x, l2[k]? = some x := ⟨_, List.getElem?_eq_getElem hk2⟩
  obtain ⟨rv1, he1, hr1⟩ := r1 k _ hx
  obtain ⟨rv2, he2, hr2⟩ := r2 k _ hy
  rw [he1, he2, hx, hy, opt_pair]
  exact sym1_any a b rv1 rv2 p q u (hr1.below hu) (hr2.below hu)
set_option maxRecDepth 100000 in
set_option maxHeartbeats 2000000 in
theorem sameSyms_any (v1 v2 : Value) (l1 l2 : List (Int × List Int)) (w : World) (h1 : PairsV w .i64 v1 l1) (h2 : PairsV w .i64 v2 l2) :
    Calls Try.prog 62 #[v1, v2] w (SaysB (decide (l1 = l2)) w) := by
  have HE := Lib.hid (eqSyms_any v1 v2 l1 l2 w h1 h2)
  generalize decide (l1 = l2) = r at HE ⊢
  clear h1 h2
  go_enter Try.func62, Try.ntmps62
  go_wp2_with (first
    | (go_at_call 87; refine HE.out.mono ?_; rintro e w2 ⟨rfl, hb2⟩))
  go_ret
  exact ⟨rfl, hb2⟩
end Go.Proofs.Ytokidpajialgbaa
