/- squealref19: ints, syms. Written by gen_spj.py. -/
import Derived.Test.YtokidpajialgbaaSpG
namespace Go.Proofs.Ytokidpajialgbaa
set_option linter.unusedSimpArgs false
set_option linter.unusedVariables false
open Go.RowKit Go.Sort
theorem saysB_quiet {f : FuncId} {args : Array Value} {b : Bool} {W : World} (h : ∀ u, Below W.heap.size W u → Calls Try.prog f args u (SaysB b u)) (d : Nat) (os : Array Obj) : Calls Try.prog f args (grow (redrawn W d) os) fun e w'' => e = .returned (.bool b) ∧ ∃ p : Regrown, w'' = grow (redrawn W p.d) p.os := Calls.regrown_of (h _ (below_regrown W d os))
theorem cell_quiet {W : World} {a : Addr} {v : Value} (h : W.cell? a = some v) : ∀ d os, (grow (redrawn W d) os).cell? a = some v := fun d os => cell_regrown h d os
theorem cells2 {w : World} {g o : Nat} {a b : Value} (h : w.rangeAt g o [a, b]) : w.cell? ⟨g, o, none⟩ = some a ∧ w.cell? ⟨g, o + 1, none⟩ = some b := ⟨h 0 a rfl, h 1 b rfl⟩
set_option maxRecDepth 100000 in
set_option maxHeartbeats 4000000 in
theorem refInts_any (v1 v2 : Value) (l1 l2 : List Int) (w : World) (h1 : RowV w .i64 v1 l1) (h2 : RowV w .i64 v2 l2) : Calls Try.prog 49 #[v1, v2] w (SaysB (decide (l1 = l2)) w) := by
  obtain ⟨A1, c1, rfl, i1, _, hc1, _⟩ := h1
  obtain ⟨A2, c2, rfl, i2, _, hc2, _⟩ := h2
  have m0 : maxLen = 9223372036854775807 := rfl
  by_cases hn : l1.length = l2.length
  · obtain ⟨n, hn1⟩ : ∃ n, n = l1.length := ⟨_, rfl⟩
    rw [← hn, ← hn1]
    have HN1 := Lib.hid hn1; have HN := Lib.hid hn
    have hn2 : n ≤ 9223372036854775807 := by omega
    have HI1 := Lib.hid i1; have HI2 := Lib.hid i2
    clear hn hn1 m0 i1 i2 hc1 hc2
    go_enter Try.func49, Try.ntmps49
    go_wp2_with fail
    go_loopw [5] (fun idx wr => ∃ (k : Nat), idx = .int .i64 k ∧ k ≤ n ∧ Hid (∀ j, j < k → l1[j]? = l2[j]?) ∧ Hid (Below w.heap.size w wr)) (fun idx _ => n - (intOf idx).toNat)
    case atStart => exact ⟨0, rfl, Nat.zero_le _, Lib.hid (fun j hj => absurd hj (by omega)), Lib.hid (Below.refl _ _)⟩
    case round =>
      obtain ⟨k, rfl, hk, HE, HB⟩ := hrel
      by_cases hlt : k < n
      · have hlt2 : (k : Int) < n := by omega
        obtain ⟨x, hx⟩ : ∃ x, l1[k]? = some x := ⟨_, List.getElem?_eq_getElem (by rw [← HN1.out]; exact hlt)⟩
        obtain ⟨y, hy⟩ : ∃ x, l2[k]? = some x := ⟨_, List.getElem?_eq_getElem (by rw [← HN.out, ← HN1.out]; exact hlt)⟩
        obtain ⟨a1, rfl, hc1⟩ := (Cells.below HI1.out HB.out) k (.int .i64 x) (by simp [hx])
        obtain ⟨a2, rfl, hc2⟩ := (Cells.below HI2.out HB.out) k (.int .i64 y) (by simp [hy])
        have v2 : IntKind.i64.wrap ((k : Int) + 1) = ((k + 1 : Nat) : Int) := by rw [IntKind.wrap_i64]; omega
        have HX := Lib.hid hx; have HY := Lib.hid hy
        clear hx hy
        by_cases hxy : x = y
        · subst hxy
          go_upto_region 6 with fail
          go_quiet (fail)
          go_wp2_with fail
          go_roundw
          case rel => exact ⟨k + 1, by go_num, by omega, Lib.hid (fun j hj => by
            rcases Nat.lt_or_ge j k with h | h
            · exact HE.out j h
            · rw [show j = k by omega, HX.out, HY.out]), Lib.hid (below_drewN HB.out _)⟩
          case measure => simp [intOf]; omega
        · have hne : (x == y) = false := by simpa using hxy
          go_upto_region 6 with fail
          go_quiet (fail)
          go_wp2_with fail
          go_ret
          refine SaysB.of ?_ (below_drewN HB.out _)
          symm
          refine decide_eq_false fun e => hxy ?_
          have := HX.out
          rw [e, HY.out] at this
          exact (Option.some.inj this).symm
      · have hlt2 : ¬ (k : Int) < n := by omega
        go_wp2_with fail
        go_ret
        refine SaysB.of ?_ HB.out
        symm
        exact decide_eq_true (lists_eq HN.out (fun j hj => HE.out j (by rw [← HN1.out] at hj; omega)))
  · have hne : ((l1.length : Int) == l2.length) = false := by simp; omega
    have hf : l1 ≠ l2 := fun e => hn (by rw [e])
    rw [decide_eq_false hf]
    generalize l1.length = n1 at hne
    generalize l2.length = n2 at hne
    clear hn hf m0 i1 i2 hc1 hc2
    go_enter Try.func49, Try.ntmps49
    go_wp2_with fail
    go_ret
    exact ⟨rfl, Below.refl _ _⟩
set_option maxRecDepth 100000 in
set_option maxHeartbeats 8000000 in
theorem refSyms_any (v1 v2 : Value) (l1 l2 : List (Int × List Int)) (w : World) (h1 : PairsV w .i64 v1 l1) (h2 : PairsV w .i64 v2 l2) : Calls Try.prog 50 #[v1, v2] w (SaysB (decide (l1 = l2)) w) := by
  obtain ⟨A1, c1, rfl, _, hc1, i1⟩ := h1
  obtain ⟨A2, c2, rfl, _, hc2, i2⟩ := h2
  have m0 : maxLen = 9223372036854775807 := rfl
  by_cases hn : l1.length = l2.length
  · obtain ⟨n, hn1⟩ : ∃ n, n = l1.length := ⟨_, rfl⟩
    rw [← hn, ← hn1]
    have HN1 := Lib.hid hn1; have HN := Lib.hid hn
    have hn2 : n ≤ 9223372036854775807 := by omega
    have HI1 := Lib.hid i1; have HI2 := Lib.hid i2
    clear hn hn1 m0 i1 i2 hc1 hc2
    go_enter Try.func50, Try.ntmps50
    go_wp2_with fail
    go_loopw [5] (fun idx wr => ∃ (k : Nat), idx = .int .i64 k ∧ k ≤ n ∧ Hid (∀ j, j < k → l1[j]? = l2[j]?) ∧ Hid (Below w.heap.size w wr)) (fun idx _ => n - (intOf idx).toNat)
    case atStart => exact ⟨0, rfl, Nat.zero_le _, Lib.hid (fun j hj => absurd hj (by omega)), Lib.hid (Below.refl _ _)⟩
    case round =>
      obtain ⟨k, rfl, hk, HE, HB⟩ := hrel
      by_cases hlt : k < n
      · have hlt2 : (k : Int) < n := by omega
        obtain ⟨⟨x, p⟩, hx⟩ : ∃ x, l1[k]? = some x := ⟨_, List.getElem?_eq_getElem (by rw [← HN1.out]; exact hlt)⟩
        obtain ⟨⟨y, q⟩, hy⟩ : ∃ x, l2[k]? = some x := ⟨_, List.getElem?_eq_getElem (by rw [← HN.out, ← HN1.out]; exact hlt)⟩
        obtain ⟨_, g1, o1, r1, rfl, hr1, hp⟩ := HI1.out k _ hx
        obtain ⟨_, g2, o2, r2, rfl, hr2, hq⟩ := HI2.out k _ hy
        obtain ⟨ca, cb⟩ := cells2 (rangeBelow hr1 HB.out)
        obtain ⟨cc, cd⟩ := cells2 (rangeBelow hr2 HB.out)
        have qa := cell_quiet ca; have qb := cell_quiet cb; have qc := cell_quiet cc; have qd := cell_quiet cd
        have v2 : IntKind.i64.wrap ((k : Int) + 1) = ((k + 1 : Nat) : Int) := by rw [IntKind.wrap_i64]; omega
        have HC : Hid (∀ d os, Calls Try.prog 49 #[r1, r2] (grow (redrawn wr d) os) fun e w'' => e = .returned (.bool (decide (p = q))) ∧ ∃ z : Regrown, w'' = grow (redrawn wr z.d) z.os) := Lib.hid (saysB_quiet (fun u hu => refInts_any r1 r2 p q u (hp.below (HB.out.trans (hu.mono HB.out.size))) (hq.below (HB.out.trans (hu.mono HB.out.size)))))
        have HX := Lib.hid hx; have HY := Lib.hid hy
        clear hx hy hr1 hr2 hp hq ca cb cc cd
        by_cases hxy : x = y
        · subst hxy
          have hpq : (p = q) ∨ ¬ (p = q) := Decidable.em _
          generalize hrb : decide (p = q) = rb at HC
          go_upto_region 6 with fail
          refine wp_region_quiet_below (by kernel_rfl) (by kernel_rfl) ?_
          repeat (quiet_step (first | (go_at_call 49; exact HC.out _ _)))
          refine wpQuiet_nil ?_
          intro u hwq
          have HBQ : Hid (Below w.heap.size w u) := by obtain ⟨z, rfl⟩ := hwq; exact Lib.hid (HB.out.trans ((below_regrown wr z.d z.os).mono HB.out.size))
          have HRB := Lib.hid hrb
          clear hwq qa qb qc qd hrb hpq
          cases rb
          · go_wp2_with fail
            go_ret
            refine SaysB.of ?_ HBQ.out
            symm
            refine decide_eq_false fun e => ?_
            have h3 := HX.out
            rw [e, HY.out] at h3
            have h3 := Option.some.inj h3
            injection h3 with _ h3
            have := of_decide_eq_false HRB.out
            exact this h3.symm
          · go_wp2_with fail
            go_roundw
            case rel => exact ⟨k + 1, by go_num, by omega, Lib.hid (fun j hj => by
              rcases Nat.lt_or_ge j k with h | h
              · exact HE.out j h
              · rw [show j = k by omega, HX.out, HY.out, of_decide_eq_true HRB.out]), HBQ⟩
            case measure => simp [intOf]; omega
        · have hne : (x == y) = false := by simpa using hxy
          go_upto_region 6 with fail
          refine wp_region_quiet_below (by kernel_rfl) (by kernel_rfl) ?_
          repeat (quiet_step (fail))
          refine wpQuiet_nil ?_
          intro u hwq
          have HBQ : Hid (Below w.heap.size w u) := by obtain ⟨z, rfl⟩ := hwq; exact Lib.hid (HB.out.trans ((below_regrown wr z.d z.os).mono HB.out.size))
          clear hwq qa qb qc qd
          go_wp2_with fail
          go_ret
          refine SaysB.of ?_ HBQ.out
          symm
          refine decide_eq_false fun e => hxy ?_
          have h3 := HX.out
          rw [e, HY.out] at h3
          have h3 := Option.some.inj h3
          injection h3 with h3 _
          exact h3.symm
      · have hlt2 : ¬ (k : Int) < n := by omega
        go_wp2_with fail
        go_ret
        refine SaysB.of ?_ HB.out
        symm
        exact decide_eq_true (lists_eq HN.out (fun j hj => HE.out j (by rw [← HN1.out] at hj; omega)))
  · have hne : ((l1.length : Int) == l2.length) = false := by simp; omega
    have hf : l1 ≠ l2 := fun e => hn (by rw [e])
    rw [decide_eq_false hf]
    generalize l1.length = n1 at hne
    generalize l2.length = n2 at hne
    clear hn hf m0 i1 i2 hc1 hc2
    go_enter Try.func50, Try.ntmps50
    go_wp2_with fail
    go_ret
    exact ⟨rfl, Below.refl _ _⟩
end Go.Proofs.Ytokidpajialgbaa
