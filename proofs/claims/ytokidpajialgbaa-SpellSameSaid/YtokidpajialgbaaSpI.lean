/- spell.Same. -/
import Derived.Test.YtokidpajialgbaaSpH
namespace Go.Proofs.Ytokidpajialgbaa
set_option linter.unusedSimpArgs false
set_option linter.unusedVariables false
open Go.RowKit Go.Sort
def eqAt (l1 l2 : List TB) (i : Nat) : Bool := (l1.getD i {}).eqB (l2.getD i {})
def blksEq (l1 l2 : List TB) : Bool := decide (l1.length = l2.length) && allK (eqAt l1 l2) l1.length
def tapesEq (a b c d : Int) (l1 l2 : List TB) : Bool := decide (a = c) && (decide (b = d) && blksEq l1 l2)
theorem blksEq_refl (l : List TB) : blksEq l l = true := by
  unfold blksEq
  rw [decide_eq_true rfl, Bool.true_and]
  exact allK_of (fun j _ => TB.eqB_refl _)
theorem tapesEq_refl (a b : Int) (l : List TB) : tapesEq a b a b l l = true := by unfold tapesEq; rw [blksEq_refl]; simp
theorem PairsV.one {w : World} {k : IntKind} {v : Value} {l : List (Int × List Int)} (h : PairsV w k v l) : v.oneCell' = true := by
  obtain ⟨A, c, rfl, _⟩ := h
  rfl
theorem RepsV.one {w : World} {v : Value} {l : List (Int × Int)} (h : RepsV w v l) : v.oneCell' = true := by
  obtain ⟨A, c, rfl, _⟩ := h
  rfl
theorem TBV.one {w : World} {cs : List Value} {B : TB} (h : TBV w cs B) : cs.toArray.all (·.oneCell') = true := by
  obtain ⟨_, d, t, i, p, s, r, hc, hd, ht, hi, hp, hs, hr⟩ := h
  have h1 := hd.one; have h2 := ht.one; have h3 := hi.one; have h4 := hp.one; have h5 := hs.one; have h6 := hr.one
  rw [hc]
  simp [TB.cells, h1, h2, h3, h4, h5, h6]
  exact ⟨rfl, rfl, rfl, rfl, rfl, rfl, rfl, rfl, rfl, rfl, rfl, rfl⟩
/-- blocks as elements -/
theorem BlksV.elems {w : World} {v : Value} {l : List TB} (h : BlksV w v l) : ∃ A c E, v = .slice A l.length c ∧ l.length ≤ maxLen ∧ ElemsAt w A 18 l.length E ∧ ∀ i B, l[i]? = some B → TBV w (E i) B := by
  obtain ⟨A, c, hv, h1, h2, h3⟩ := h
  obtain ⟨E, hE⟩ := Go.Deep.choose_lt (α := List Value) (n := l.length) (p := fun i e => ∃ B, l[i]? = some B ∧ TBV w e B ∧ ∃ g o : Nat, A = some ⟨g, o, none⟩ ∧ w.rangeAt g (o + i * 18) e) (fun i hi => by
    obtain ⟨B, hB⟩ : ∃ x, l[i]? = some x := ⟨_, List.getElem?_eq_getElem hi⟩
    obtain ⟨g, o, cs, h4, h5, h6⟩ := h3 i B hB
    exact ⟨cs, B, hB, h6, g, o, h4, h5⟩)
  refine ⟨A, c, E, hv, by omega, fun i hi => ?_, fun i B hB => ?_⟩
  · obtain ⟨B, hB, ht, g, o, h4, h5⟩ := hE i hi
    exact ⟨g, o, h4, h5, ht.len, ht.one⟩
  · obtain ⟨B', hB', ht, _⟩ := hE i (List.getElem?_eq_some_iff.1 hB).1
    rw [hB] at hB'
    obtain rfl := Option.some.inj hB'
    exact ht
theorem eqBlks_any (v1 v2 : Value) (l1 l2 : List TB) (w : World) (h1 : BlksV w v1 l1) (h2 : BlksV w v2 l2) :
    Calls Try.prog 29 #[v1, v2, .func (.func 30) #[] #[]] w (SaysB (blksEq l1 l2) w) := by
  obtain ⟨A1, c1, E1, rfl, m1, e1, r1⟩ := h1.elems
  obtain ⟨A2, c2, E2, rfl, m2, e2, r2⟩ := h2.elems
  refine eqFuncBlks A1 A2 _ _ c1 c2 E1 E2 _ w e1 e2 m1 (fun k hk1 hk2 u hu => ?_)
  have hx : l1[k]? = some (l1.getD k {}) := by simp [List.getD, List.getElem?_eq_getElem hk1]
  have hy : l2[k]? = some (l2.getD k {}) := by simp [List.getD, List.getElem?_eq_getElem hk2]
  exact sameBlock_any _ _ _ _ u ((r1 k _ hx).below hu) ((r2 k _ hy).below hu)
set_option maxRecDepth 100000 in
set_option maxHeartbeats 4000000 in
theorem same_any (a b c d : Int) (v1 v2 : Value) (l1 l2 : List TB) (w : World) (h1 : BlksV w v1 l1) (h2 : BlksV w v2 l2) :
    Calls Try.prog 15 #[.agg #[.int .i64 a, .int .i64 b, v1], .agg #[.int .i64 c, .int .i64 d, v2]] w (SaysB (tapesEq a b c d l1 l2) w) := by
  have hb : Below w.heap.size w ((w.alloc (.cells #[.int .i64 a, .int .i64 b, v1] 33)).alloc (.cells #[.int .i64 c, .int .i64 d, v2] 33)) := ((Below.refl _ w).alloc (Nat.le_refl _) _).alloc (by simp) _
  have HB := Lib.hid hb
  have HE := Lib.hid (fun u (hu : Below w.heap.size w u) => eqBlks_any v1 v2 l1 l2 u (h1.below hu) (h2.below hu))
  obtain ⟨A1, c1, rfl, -⟩ := h1
  obtain ⟨A2, c2, rfl, -⟩ := h2
  clear hb
  unfold tapesEq
  generalize blksEq l1 l2 = r at HE ⊢
  by_cases hac : a = c
  · subst hac
    by_cases hbd : b = d
    · subst hbd
      rw [decide_eq_true rfl, decide_eq_true rfl, Bool.true_and, Bool.true_and]
      go_enter Try.func15, Try.ntmps15
      go_wp2_with (first
        | (go_at_call 29; refine (HE.out _ HB.out).mono ?_; rintro e w2 ⟨rfl, hb2⟩))
      go_ret
      exact ⟨rfl, HB.out.trans (hb2.mono HB.out.size)⟩
    · rw [decide_eq_true rfl, decide_eq_false hbd]
      have hne : (b == d) = false := by simpa using hbd
      clear HE
      go_enter Try.func15, Try.ntmps15
      go_wp2_with fail
      go_ret
      exact ⟨rfl, HB.out⟩
  · rw [decide_eq_false hac]
    have hne : (a == c) = false := by simpa using hac
    clear HE
    go_enter Try.func15, Try.ntmps15
    go_wp2_with fail
    go_ret
    exact ⟨rfl, HB.out⟩
end Go.Proofs.Ytokidpajialgbaa
