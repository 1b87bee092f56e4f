/- slices.Equal of numbers, of pairs of numbers. -/
import Derived.Test.YtokidpajialgbaaSpC
import Derived.BigQuiet
import Derived.Laws.StructEq
import Derived.Deep.QuietTactic
import Derived.Lib.QuietBelow
namespace Go.Proofs.Ytokidpajialgbaa
set_option linter.unusedSimpArgs false
set_option linter.unusedVariables false
open Go.RowKit Go.Sort
/-- a truth value, in a world that has grown -/
def SaysB (b : Bool) (w : World) (e : Ending) (w' : World) : Prop := e = .returned (.bool b) ∧ Below w.heap.size w w'
theorem SaysB.of {b : Bool} {w w' : World} {c : Bool} (h : b = c) (hb : Below w.heap.size w w') : SaysB c w (.returned (.bool b)) w' := ⟨by rw [h], hb⟩
theorem lists_eq {α : Type} {a b : List α} (h : a.length = b.length) (hk : ∀ j, j < a.length → a[j]? = b[j]?) : a = b := by
  apply List.ext_getElem?
  intro i
  rcases Nat.lt_or_ge i a.length with hi | hi
  · exact hk i hi
  · rw [List.getElem?_eq_none hi, List.getElem?_eq_none (by omega)]
theorem below_drewN {w w' : World} {n : Nat} (h : Below n w w') (k : Nat) : Below n w (w'.drewN k) := ⟨h.os, h.tape, h.output, h.size, h.block⟩
set_option maxRecDepth 100000 in
set_option maxHeartbeats 4000000 in
theorem eqInts_any (v1 v2 : Value) (l1 l2 : List Int) (w : World) (h1 : RowV w .i64 v1 l1) (h2 : RowV w .i64 v2 l2) : Calls Try.prog 60 #[v1, v2] w (SaysB (decide (l1 = l2)) w) := by
  obtain ⟨A1, c1, rfl, i1, _, hc1, _⟩ := h1
  obtain ⟨A2, c2, rfl, i2, _, hc2, _⟩ := h2
  have m0 : maxLen = 9223372036854775807 := rfl
  by_cases hn : l1.length = l2.length
  · obtain ⟨n, hn1⟩ : ∃ n, n = l1.length := ⟨_, rfl⟩
    rw [← hn, ← hn1]
    have HN1 := Lib.hid hn1; have HN := Lib.hid hn
    have hn2 : n ≤ 9223372036854775807 := by omega
    have HI1 := Lib.hid i1; have HI2 := Lib.hid i2
    clear hn hn1 m0 i1 i2 hc1 hc2
    go_enter Try.func60, Try.ntmps60
    go_wp2_with fail
    go_loopw [5, 13] (fun _ idx wr => ∃ (k : Nat), idx = .int .i64 k ∧ k ≤ n ∧ Hid (∀ j, j < k → l1[j]? = l2[j]?) ∧ Hid (Below w.heap.size w wr)) (fun _ idx _ => n - (intOf idx).toNat)
    case atStart => exact ⟨0, rfl, Nat.zero_le _, Lib.hid (fun j hj => absurd hj (by omega)), Lib.hid (Below.refl _ _)⟩
    case round =>
      obtain ⟨k, rfl, hk, HE, HB⟩ := hrel
      by_cases hlt : k < n
      · have hlt2 : (k : Int) < n := by omega
        obtain ⟨x, hx⟩ : ∃ x, l1[k]? = some x := ⟨_, List.getElem?_eq_getElem (by rw [← HN1.out]; exact hlt)⟩
        obtain ⟨y, hy⟩ : ∃ x, l2[k]? = some x := ⟨_, List.getElem?_eq_getElem (by rw [← HN.out, ← HN1.out]; exact hlt)⟩
        obtain ⟨a1, rfl, hc1⟩ := (Cells.below HI1.out HB.out) k (.int .i64 x) (by simp [hx])
        obtain ⟨a2, rfl, hc2⟩ := (Cells.below HI2.out HB.out) k (.int .i64 y) (by simp [hy])
        have v2 : IntKind.i64.wrap ((k : Int) + 1) = ((k + 1 : Nat) : Int) := by rw [IntKind.wrap_i64]; omega
        have HX := Lib.hid hx; have HY := Lib.hid hy
        clear hx hy
        by_cases hxy : x = y
        · subst hxy
          go_upto_region 6 with fail
          go_quiet (fail)
          go_wp2_with fail
          go_roundw
          case rel => exact ⟨k + 1, by go_num, by omega, Lib.hid (fun j hj => by
            rcases Nat.lt_or_ge j k with h | h
            · exact HE.out j h
            · rw [show j = k by omega, HX.out, HY.out]), Lib.hid (below_drewN HB.out _)⟩
          case measure => simp [intOf]; omega
        · have hne : (x == y) = false := by simpa using hxy
          go_upto_region 6 with fail
          go_quiet (fail)
          go_wp2_with fail
          go_ret
          refine SaysB.of ?_ (below_drewN HB.out _)
          symm
          refine decide_eq_false fun e => hxy ?_
          have := HX.out
          rw [e, HY.out] at this
          exact (Option.some.inj this).symm
      · have hlt2 : ¬ (k : Int) < n := by omega
        go_wp2_with fail
        go_ret
        refine SaysB.of ?_ HB.out
        symm
        exact decide_eq_true (lists_eq HN.out (fun j hj => HE.out j (by rw [← HN1.out] at hj; omega)))
  · have hne : ((l1.length : Int) == l2.length) = false := by simp; omega
    have hf : l1 ≠ l2 := fun e => hn (by rw [e])
    rw [decide_eq_false hf]
    generalize l1.length = n1 at hne
    generalize l2.length = n2 at hne
    clear hn hf m0 i1 i2 hc1 hc2
    go_enter Try.func60, Try.ntmps60
    go_wp2_with fail
    go_ret
    exact ⟨rfl, Below.refl _ _⟩
theorem infoRepS : (Try.prog.info? 88).map (·.size) = some 2 := by kernel_rfl
theorem range_quiet {W : World} {b o : Nat} {cs : List Value} (h : W.rangeAt b o cs) : ∀ w', (∃ p : Regrown, w' = grow (redrawn W p.d) p.os) → w'.rangeAt b o cs := by
  rintro _ ⟨p, rfl⟩ j v hv
  exact cell_regrown (h j v hv) p.d p.os
/-- a row is loaded, in a region that only reads -/
theorem quiet_loadAt {P : Program} {o : Oper} {a : Act} {C : World → Prop} {K : Act → Prop} {b : Bool} {E : Prop} (hb : b = true) (ty : TypeId) (x : Operand) (ho : o.op = .load ty x) (g off : Nat) (hx : a.eval x = .pointer (some ⟨g, off, none⟩)) (cs : List Value) (d : TypeDesc) (hS : ∀ w, C w → w.rangeAt g off cs)
    (hu : P.underlying ty = some d) (hd : d.isRow = true) (hi : (P.info? ty).map (·.size) = some cs.length) (h : K (a.put o.dst (.agg cs.toArray))) : if b = true then o.quiet P a C K else E := by
  rw [if_pos hb]
  refine ⟨.agg cs.toArray, fun w hw => ?_, h⟩
  unfold Oper.quietAt execOp
  simp only [ho, hx, Instr.loadAt, Instr.sureAddr, Sem.run_bind, Sem.run_pure, Result.andThen_ok, run_loadVar_mid w g off ty cs d (hS w hw) hu hd hi]
  exact ⟨rfl, rfl⟩
/-- two values are compared -/
theorem quiet_bin {P : Program} {o : Oper} {a : Act} {C : World → Prop} {K : Act → Prop} {b : Bool} {E : Prop} (hb : b = true) (op : BinOp) (ty : TypeId) (x y : Operand) (ty' : TypeId) (ho : o.op = .binOp op ty x y ty') (v vx vy : Value) (hx : a.eval x = vx) (hy : a.eval y = vy)
    (hr : ∀ w, (do eqGuard op ty x y vx vy; binOp op ty vx vy : Sem Value).run P w = .ok v w) (h : K (a.put o.dst v)) : if b = true then o.quiet P a C K else E := by
  rw [if_pos hb]
  refine ⟨v, fun w hw => ?_, h⟩
  unfold Oper.quietAt execOp
  simp only [ho, hx, hy, Sem.run_bind, Sem.run_pure]
  have := hr w
  rw [Sem.run_bind] at this
  rw [this]
  exact ⟨rfl, rfl⟩
set_option maxRecDepth 100000 in
theorem cmp_rep (a b c d : Int) (r : Bool) (hr : (!(a == c && b == d)) = r) (u : World) : (do eqGuard .neq 88 (.tmp 19) (.tmp 23) (.agg [.int .i64 a, .int .i64 b].toArray) (.agg [.int .i64 c, .int .i64 d].toArray); binOp .neq 88 (.agg [.int .i64 a, .int .i64 b].toArray) (.agg [.int .i64 c, .int .i64 d].toArray) : Sem Value).run Try.prog u = .ok (.bool r) u := by
  subst hr
  by_cases h1 : a = c <;> by_cases h2 : b = d <;> simp [h1, h2, go_sem]
set_option maxRecDepth 100000 in
set_option maxHeartbeats 4000000 in
theorem eqReps_any (v1 v2 : Value) (l1 l2 : List (Int × Int)) (w : World) (h1 : RepsV w v1 l1) (h2 : RepsV w v2 l2) : Calls Try.prog 61 #[v1, v2] w (SaysB (decide (l1 = l2)) w) := by
  obtain ⟨A1, c1, rfl, _, hc1, i1⟩ := h1
  obtain ⟨A2, c2, rfl, _, hc2, i2⟩ := h2
  have m0 : maxLen = 9223372036854775807 := rfl
  by_cases hn : l1.length = l2.length
  · obtain ⟨n, hn1⟩ : ∃ n, n = l1.length := ⟨_, rfl⟩
    rw [← hn, ← hn1]
    have HN1 := Lib.hid hn1; have HN := Lib.hid hn
    have hn2 : n ≤ 9223372036854775807 := by omega
    have HI1 := Lib.hid i1; have HI2 := Lib.hid i2
    clear hn hn1 m0 i1 i2 hc1 hc2
    go_enter Try.func61, Try.ntmps61
    go_wp2_with fail
    go_loopw [5, 13] (fun _ idx wr => ∃ (k : Nat), idx = .int .i64 k ∧ k ≤ n ∧ Hid (∀ j, j < k → l1[j]? = l2[j]?) ∧ Hid (Below w.heap.size w wr)) (fun _ idx _ => n - (intOf idx).toNat)
    case atStart => exact ⟨0, rfl, Nat.zero_le _, Lib.hid (fun j hj => absurd hj (by omega)), Lib.hid (Below.refl _ _)⟩
    case round =>
      obtain ⟨k, rfl, hk, HE, HB⟩ := hrel
      by_cases hlt : k < n
      · have hlt2 : (k : Int) < n := by omega
        obtain ⟨x, hx⟩ : ∃ x, l1[k]? = some x := ⟨_, List.getElem?_eq_getElem (by rw [← HN1.out]; exact hlt)⟩
        obtain ⟨y, hy⟩ : ∃ x, l2[k]? = some x := ⟨_, List.getElem?_eq_getElem (by rw [← HN.out, ← HN1.out]; exact hlt)⟩
        obtain ⟨x1, x2⟩ := x
        obtain ⟨y1, y2⟩ := y
        obtain ⟨_, _, g1, o1, rfl, hr1⟩ := HI1.out k _ hx
        obtain ⟨_, _, g2, o2, rfl, hr2⟩ := HI2.out k _ hy
        have HR1 : Hid (wr.rangeAt g1 (o1 + k * 2) [.int .i64 x1, .int .i64 x2]) := Lib.hid (rangeBelow hr1 HB.out)
        have HR2 : Hid (wr.rangeAt g2 (o2 + k * 2) [.int .i64 y1, .int .i64 y2]) := Lib.hid (rangeBelow hr2 HB.out)
        clear hr1 hr2
        have v2 : IntKind.i64.wrap ((k : Int) + 1) = ((k + 1 : Nat) : Int) := by rw [IntKind.wrap_i64]; omega
        have HX := Lib.hid hx; have HY := Lib.hid hy
        clear hx hy
        by_cases hxy : x1 = y1 ∧ x2 = y2
        · obtain ⟨rfl, rfl⟩ := hxy
          have HE2 := Lib.hid (cmp_rep x1 x2 x1 x2 false (by simp))
          go_upto_region 6 with fail
          refine wp_region_quiet_below (by kernel_rfl) (by kernel_rfl) ?_
          repeat (first
            | (refine wpQuiet_step (fun K hK => ?_)
               refine quiet_loadAt (by rfl) 88 (.tmp 18) rfl g1 (o1 + k * 2) rfl [.int .i64 x1, .int .i64 x2] _ (range_quiet HR1.out) Try.underlying88 rfl infoRepS (hK _ ?_)
               clear hK K)
            | (refine wpQuiet_step (fun K hK => ?_)
               refine quiet_loadAt (by rfl) 88 (.tmp 22) rfl g2 (o2 + k * 2) rfl _ _ (range_quiet HR2.out) Try.underlying88 rfl infoRepS (hK _ ?_)
               clear hK K)
            | (refine wpQuiet_step (fun K hK => ?_)
               refine quiet_bin (by rfl) .neq 88 (.tmp 19) (.tmp 23) 88 rfl _ _ _ rfl rfl HE2.out (hK _ ?_)
               clear hK K)
            | quiet_step (fail))
          refine wpQuiet_nil ?_
          intro u hwq
          have HBQ : Hid (Below w.heap.size w u) := by obtain ⟨p, rfl⟩ := hwq; exact Lib.hid (HB.out.trans ((below_regrown wr p.d p.os).mono HB.out.size))
          clear hwq
          go_wp2_with fail
          go_roundw
          case rel => exact ⟨k + 1, by go_num, by omega, Lib.hid (fun j hj => by
            rcases Nat.lt_or_ge j k with h | h
            · exact HE.out j h
            · rw [show j = k by omega, HX.out, HY.out]), HBQ⟩
          case measure => simp [intOf]; omega
        · have HE2 := Lib.hid (cmp_rep x1 x2 y1 y2 true (by simp; omega))
          go_upto_region 6 with fail
          refine wp_region_quiet_below (by kernel_rfl) (by kernel_rfl) ?_
          repeat (first
            | (refine wpQuiet_step (fun K hK => ?_)
               refine quiet_loadAt (by rfl) 88 (.tmp 18) rfl g1 (o1 + k * 2) rfl [.int .i64 x1, .int .i64 x2] _ (range_quiet HR1.out) Try.underlying88 rfl infoRepS (hK _ ?_)
               clear hK K)
            | (refine wpQuiet_step (fun K hK => ?_)
               refine quiet_loadAt (by rfl) 88 (.tmp 22) rfl g2 (o2 + k * 2) rfl _ _ (range_quiet HR2.out) Try.underlying88 rfl infoRepS (hK _ ?_)
               clear hK K)
            | (refine wpQuiet_step (fun K hK => ?_)
               refine quiet_bin (by rfl) .neq 88 (.tmp 19) (.tmp 23) 88 rfl _ _ _ rfl rfl HE2.out (hK _ ?_)
               clear hK K)
            | quiet_step (fail))
          refine wpQuiet_nil ?_
          intro u hwq
          have HBQ : Hid (Below w.heap.size w u) := by obtain ⟨p, rfl⟩ := hwq; exact Lib.hid (HB.out.trans ((below_regrown wr p.d p.os).mono HB.out.size))
          clear hwq
          go_wp2_with fail
          go_ret
          refine SaysB.of ?_ HBQ.out
          symm
          refine decide_eq_false fun e => hxy ?_
          have := HX.out
          rw [e, HY.out] at this
          have := Option.some.inj this
          injection this with h1 h2
          exact ⟨h1.symm, h2.symm⟩
      · have hlt2 : ¬ (k : Int) < n := by omega
        go_wp2_with fail
        go_ret
        refine SaysB.of ?_ HB.out
        symm
        exact decide_eq_true (lists_eq HN.out (fun j hj => HE.out j (by rw [← HN1.out] at hj; omega)))
  · have hne : ((l1.length : Int) == l2.length) = false := by simp; omega
    have hf : l1 ≠ l2 := fun e => hn (by rw [e])
    rw [decide_eq_false hf]
    generalize l1.length = n1 at hne
    generalize l2.length = n2 at hne
    clear hn hf m0 i1 i2 hc1 hc2
    go_enter Try.func61, Try.ntmps61
    go_wp2_with fail
    go_ret
    exact ⟨rfl, Below.refl _ _⟩
end Go.Proofs.Ytokidpajialgbaa
