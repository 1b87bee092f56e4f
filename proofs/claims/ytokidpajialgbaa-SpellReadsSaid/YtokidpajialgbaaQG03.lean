/- Texts that are laid together: G03. -/
import Derived.Test.YtokidpajialgbaaQG01
import Derived.BigQuiet
import Derived.Laws.StructEq
import Derived.Deep.QuietTactic
import Derived.Lib.QuietBelow
import Derived.Test.YtokidpajialgbaaChecked
import Derived.Laws.BytesString
import Derived.Lib.SlBytesConst
namespace Go.Proofs.Ytokidpajialgbaa
set_option linter.unusedSimpArgs false
set_option linter.unusedVariables false
open Go.RowKit Go.Sort
/-- a truth value, in a world that has grown -/
def SaysB (b : Bool) (w : World) (e : Ending) (w' : World) : Prop := e = .returned (.bool b) ∧ Below w.heap.size w w'
theorem SaysB.of {b : Bool} {w w' : World} {c : Bool} (h : b = c) (hb : Below w.heap.size w w') : SaysB c w (.returned (.bool b)) w' := ⟨by rw [h], hb⟩
theorem lists_eq {α : Type} {a b : List α} (h : a.length = b.length) (hk : ∀ j, j < a.length → a[j]? = b[j]?) : a = b := by
  apply List.ext_getElem?
  intro i
  rcases Nat.lt_or_ge i a.length with hi | hi
  · exact hk i hi
  · rw [List.getElem?_eq_none hi, List.getElem?_eq_none (by omega)]
theorem below_drewN {w w' : World} {n : Nat} (h : Below n w w') (k : Nat) : Below n w (w'.drewN k) := ⟨h.os, h.tape, h.output, h.size, h.block⟩
set_option maxRecDepth 100000 in
set_option maxHeartbeats 4000000 in
theorem eqInts_any (v1 v2 : Value) (l1 l2 : List Int) (w : World) (h1 : RowV w .i64 v1 l1) (h2 : RowV w .i64 v2 l2) : Calls Try.prog 60 #[v1, v2] w (SaysB (decide (l1 = l2)) w) := by
  obtain ⟨A1, c1, rfl, i1, _, hc1, _⟩ := h1
  obtain ⟨A2, c2, rfl, i2, _, hc2, _⟩ := h2
  have m0 : maxLen = 9223372036854775807 := rfl
  by_cases hn : l1.length = l2.length
  · obtain ⟨n, hn1⟩ : ∃ n, n = l1.length := ⟨_, rfl⟩
    rw [← hn, ← hn1]
    have HN1 := Lib.hid hn1; have HN := Lib.hid hn
    have hn2 : n ≤ 9223372036854775807 := by omega
    have HI1 := Lib.hid i1; have HI2 := Lib.hid i2
    clear hn hn1 m0 i1 i2 hc1 hc2
    go_enter Try.func60, Try.ntmps60
    go_wp2_with fail
    go_loopw [5, 13] (fun _ idx wr => ∃ (k : Nat), idx = .int .i64 k ∧ k ≤ n ∧ Hid (∀ j, j < k → l1[j]? = l2[j]?) ∧ Hid (Below w.heap.size w wr)) (fun _ idx _ => n - (intOf idx).toNat)
    case atStart => exact ⟨0, rfl, Nat.zero_le _, Lib.hid (fun j hj => absurd hj (by omega)), Lib.hid (Below.refl _ _)⟩
    case round =>
      obtain ⟨k, rfl, hk, HE, HB⟩ := hrel
      by_cases hlt : k < n
      · have hlt2 : (k : Int) < n := by omega
        obtain ⟨x, hx⟩ : ∃ x, l1[k]? = some x := ⟨_, List.getElem?_eq_getElem (by rw [← HN1.out]; exact hlt)⟩
        obtain ⟨y, hy⟩ : ∃ x, l2[k]? = some x := ⟨_, List.getElem?_eq_getElem (by rw [← HN.out, ← HN1.out]; exact hlt)⟩
        obtain ⟨a1, rfl, hc1⟩ := (Cells.below HI1.out HB.out) k (.int .i64 x) (by simp [hx])
        obtain ⟨a2, rfl, hc2⟩ := (Cells.below HI2.out HB.out) k (.int .i64 y) (by simp [hy])
        have v2 : IntKind.i64.wrap ((k : Int) + 1) = ((k + 1 : Nat) : Int) := by rw [IntKind.wrap_i64]; omega
        have HX := Lib.hid hx; have HY := Lib.hid hy
        clear hx hy
        by_cases hxy : x = y
        · subst hxy
          go_upto_region 6 with fail
          go_quiet (fail)
          go_wp2_with fail
          go_roundw
          case rel => exact ⟨k + 1, by go_num, by omega, Lib.hid (fun j hj => by
            rcases Nat.lt_or_ge j k with h | h
            · exact HE.out j h
            · rw [show j = k by omega, HX.out, HY.out]), Lib.hid (below_drewN HB.out _)⟩
          case measure => simp [intOf]; omega
        · have hne : (x == y) = false := by simpa using hxy
          go_upto_region 6 with fail
          go_quiet (fail)
          go_wp2_with fail
          go_ret
          refine SaysB.of ?_ (below_drewN HB.out _)
          symm
          refine decide_eq_false fun e => hxy ?_
          have := HX.out
          rw [e, HY.out] at this
          exact (Option.some.inj this).symm
      · have hlt2 : ¬ (k : Int) < n := by omega
        go_wp2_with fail
        go_ret
        refine SaysB.of ?_ HB.out
        symm
        exact decide_eq_true (lists_eq HN.out (fun j hj => HE.out j (by rw [← HN1.out] at hj; omega)))
  · have hne : ((l1.length : Int) == l2.length) = false := by simp; omega
    have hf : l1 ≠ l2 := fun e => hn (by rw [e])
    rw [decide_eq_false hf]
    generalize l1.length = n1 at hne
    generalize l2.length = n2 at hne
    clear hn hf m0 i1 i2 hc1 hc2
    go_enter Try.func60, Try.ntmps60
    go_wp2_with fail
    go_ret
    exact ⟨rfl, Below.refl _ _⟩
theorem infoRepS : (Try.prog.info? 88).map (·.size) = some 2 := by kernel_rfl
theorem range_quiet {W : World} {b o : Nat} {cs : List Value} (h : W.rangeAt b o cs) : ∀ w', (∃ p : Regrown, w' = grow (redrawn W p.d) p.os) → w'.rangeAt b o cs := by
  rintro _ ⟨p, rfl⟩ j v hv
  exact cell_regrown (h j v hv) p.d p.os
/-- a row is loaded, in a region that only reads -/
theorem quiet_loadAt {P : Program} {o : Oper} {a : Act} {C : World → Prop} {K : Act → Prop} {b : Bool} {E : Prop} (hb : b = true) (ty : TypeId) (x : Operand) (ho : o.op = .load ty x) (g off : Nat) (hx : a.eval x = .pointer (some ⟨g, off, none⟩)) (cs : List Value) (d : TypeDesc) (hS : ∀ w, C w → w.rangeAt g off cs)
    (hu : P.underlying ty = some d) (hd : d.isRow = true) (hi : (P.info? ty).map (·.size) = some cs.length) (h : K (a.put o.dst (.agg cs.toArray))) : if b = true then o.quiet P a C K else E := by
  rw [if_pos hb]
  refine ⟨.agg cs.toArray, fun w hw => ?_, h⟩
  unfold Oper.quietAt execOp
  simp only [ho, hx, Instr.loadAt, Instr.sureAddr, Sem.run_bind, Sem.run_pure, Result.andThen_ok, run_loadVar_mid w g off ty cs d (hS w hw) hu hd hi]
  exact ⟨rfl, rfl⟩
/-- two values are compared -/
theorem quiet_bin {P : Program} {o : Oper} {a : Act} {C : World → Prop} {K : Act → Prop} {b : Bool} {E : Prop} (hb : b = true) (op : BinOp) (ty : TypeId) (x y : Operand) (ty' : TypeId) (ho : o.op = .binOp op ty x y ty') (v vx vy : Value) (hx : a.eval x = vx) (hy : a.eval y = vy)
    (hr : ∀ w, (do eqGuard op ty x y vx vy; binOp op ty vx vy : Sem Value).run P w = .ok v w) (h : K (a.put o.dst v)) : if b = true then o.quiet P a C K else E := by
  rw [if_pos hb]
  refine ⟨v, fun w hw => ?_, h⟩
  unfold Oper.quietAt execOp
  simp only [ho, hx, hy, Sem.run_bind, Sem.run_pure]
  have := hr w
  rw [Sem.run_bind] at this
  rw [this]
  exact ⟨rfl, rfl⟩
set_option maxRecDepth 100000 in
theorem cmp_rep (a b c d : Int) (r : Bool) (hr : (!(a == c && b == d)) = r) (u : World) : (do eqGuard .neq 88 (.tmp 19) (.tmp 23) (.agg [.int .i64 a, .int .i64 b].toArray) (.agg [.int .i64 c, .int .i64 d].toArray); binOp .neq 88 (.agg [.int .i64 a, .int .i64 b].toArray) (.agg [.int .i64 c, .int .i64 d].toArray) : Sem Value).run Try.prog u = .ok (.bool r) u := by
  subst hr
  by_cases h1 : a = c <;> by_cases h2 : b = d <;> simp [h1, h2, go_sem]
set_option maxRecDepth 100000 in
set_option maxHeartbeats 4000000 in
theorem eqReps_any (v1 v2 : Value) (l1 l2 : List (Int × Int)) (w : World) (h1 : RepsV w v1 l1) (h2 : RepsV w v2 l2) : Calls Try.prog 61 #[v1, v2] w (SaysB (decide (l1 = l2)) w) := by
  obtain ⟨A1, c1, rfl, _, hc1, i1⟩ := h1
  obtain ⟨A2, c2, rfl, _, hc2, i2⟩ := h2
  have m0 : maxLen = 9223372036854775807 := rfl
  by_cases hn : l1.length = l2.length
  · obtain ⟨n, hn1⟩ : ∃ n, n = l1.length := ⟨_, rfl⟩
    rw [← hn, ← hn1]
    have HN1 := Lib.hid hn1; have HN := Lib.hid hn
    have hn2 : n ≤ 9223372036854775807 := by omega
    have HI1 := Lib.hid i1; have HI2 := Lib.hid i2
    clear hn hn1 m0 i1 i2 hc1 hc2
    go_enter Try.func61, Try.ntmps61
    go_wp2_with fail
    go_loopw [5, 13] (fun _ idx wr => ∃ (k : Nat), idx = .int .i64 k ∧ k ≤ n ∧ Hid (∀ j, j < k → l1[j]? = l2[j]?) ∧ Hid (Below w.heap.size w wr)) (fun _ idx _ => n - (intOf idx).toNat)
    case atStart => exact ⟨0, rfl, Nat.zero_le _, Lib.hid (fun j hj => absurd hj (by omega)), Lib.hid (Below.refl _ _)⟩
    case round =>
      obtain ⟨k, rfl, hk, HE, HB⟩ := hrel
      by_cases hlt : k < n
      · have hlt2 : (k : Int) < n := by omega
        obtain ⟨x, hx⟩ : ∃ x, l1[k]? = some x := ⟨_, List.getElem?_eq_getElem (by rw [← HN1.out]; exact hlt)⟩
        obtain ⟨y, hy⟩ : ∃ x, l2[k]? = some x := ⟨_, List.getElem?_eq_getElem (by rw [← HN.out, ← HN1.out]; exact hlt)⟩
        obtain ⟨x1, x2⟩ := x
        obtain ⟨y1, y2⟩ := y
        obtain ⟨_, _, g1, o1, rfl, hr1⟩ := HI1.out k _ hx
        obtain ⟨_, _, g2, o2, rfl, hr2⟩ := HI2.out k _ hy
        have HR1 : Hid (wr.rangeAt g1 (o1 + k * 2) [.int .i64 x1, .int .i64 x2]) := Lib.hid (rangeBelow hr1 HB.out)
        have HR2 : Hid (wr.rangeAt g2 (o2 + k * 2) [.int .i64 y1, .int .i64 y2]) := Lib.hid (rangeBelow hr2 HB.out)
        clear hr1 hr2
        have v2 : IntKind.i64.wrap ((k : Int) + 1) = ((k + 1 : Nat) : Int) := by rw [IntKind.wrap_i64]; omega
        have HX := Lib.hid hx; have HY := Lib.hid hy
        clear hx hy
        by_cases hxy : x1 = y1 ∧ x2 = y2
        · obtain ⟨rfl, rfl⟩ := hxy
          have HE2 := Lib.hid (cmp_rep x1 x2 x1 x2 false (by simp))
          go_upto_region 6 with fail
          refine wp_region_quiet_below (by kernel_rfl) (by kernel_rfl) ?_
          repeat (first
            | (refine wpQuiet_step (fun K hK => ?_)
               refine quiet_loadAt (by rfl) 88 (.tmp 18) rfl g1 (o1 + k * 2) rfl [.int .i64 x1, .int .i64 x2] _ (range_quiet HR1.out) Try.underlying88 rfl infoRepS (hK _ ?_)
               clear hK K)
            | (refine wpQuiet_step (fun K hK => ?_)
               refine quiet_loadAt (by rfl) 88 (.tmp 22) rfl g2 (o2 + k * 2) rfl _ _ (range_quiet HR2.out) Try.underlying88 rfl infoRepS (hK _ ?_)
               clear hK K)
            | (refine wpQuiet_step (fun K hK => ?_)
               refine quiet_bin (by rfl) .neq 88 (.tmp 19) (.tmp 23) 88 rfl _ _ _ rfl rfl HE2.out (hK _ ?_)
               clear hK K)
            | quiet_step (fail))
          refine wpQuiet_nil ?_
          intro u hwq
          have HBQ : Hid (Below w.heap.size w u) := by obtain ⟨p, rfl⟩ := hwq; exact Lib.hid (HB.out.trans ((below_regrown wr p.d p.os).mono HB.out.size))
          clear hwq
          go_wp2_with fail
          go_roundw
          case rel => exact ⟨k + 1, by go_num, by omega, Lib.hid (fun j hj => by
            rcases Nat.lt_or_ge j k with h | h
            · exact HE.out j h
            · rw [show j = k by omega, HX.out, HY.out]), HBQ⟩
          case measure => simp [intOf]; omega
        · have HE2 := Lib.hid (cmp_rep x1 x2 y1 y2 true (by simp; omega))
          go_upto_region 6 with fail
          refine wp_region_quiet_below (by kernel_rfl) (by kernel_rfl) ?_
          repeat (first
            | (refine wpQuiet_step (fun K hK => ?_)
               refine quiet_loadAt (by rfl) 88 (.tmp 18) rfl g1 (o1 + k * 2) rfl [.int .i64 x1, .int .i64 x2] _ (range_quiet HR1.out) Try.underlying88 rfl infoRepS (hK _ ?_)
               clear hK K)
            | (refine wpQuiet_step (fun K hK => ?_)
               refine quiet_loadAt (by rfl) 88 (.tmp 22) rfl g2 (o2 + k * 2) rfl _ _ (range_quiet HR2.out) Try.underlying88 rfl infoRepS (hK _ ?_)
               clear hK K)
            | (refine wpQuiet_step (fun K hK => ?_)
               refine quiet_bin (by rfl) .neq 88 (.tmp 19) (.tmp 23) 88 rfl _ _ _ rfl rfl HE2.out (hK _ ?_)
               clear hK K)
            | quiet_step (fail))
          refine wpQuiet_nil ?_
          intro u hwq
          have HBQ : Hid (Below w.heap.size w u) := by obtain ⟨p, rfl⟩ := hwq; exact Lib.hid (HB.out.trans ((below_regrown wr p.d p.os).mono HB.out.size))
          clear hwq
          go_wp2_with fail
          go_ret
          refine SaysB.of ?_ HBQ.out
          symm
          refine decide_eq_false fun e => hxy ?_
          have := HX.out
          rw [e, HY.out] at this
          have := Option.some.inj this
          injection this with h1 h2
          exact ⟨h1.symm, h2.symm⟩
      · have hlt2 : ¬ (k : Int) < n := by omega
        go_wp2_with fail
        go_ret
        refine SaysB.of ?_ HB.out
        symm
        exact decide_eq_true (lists_eq HN.out (fun j hj => HE.out j (by rw [← HN1.out] at hj; omega)))
  · have hne : ((l1.length : Int) == l2.length) = false := by simp; omega
    have hf : l1 ≠ l2 := fun e => hn (by rw [e])
    rw [decide_eq_false hf]
    generalize l1.length = n1 at hne
    generalize l2.length = n2 at hne
    clear hn hf m0 i1 i2 hc1 hc2
    go_enter Try.func61, Try.ntmps61
    go_wp2_with fail
    go_ret
    exact ⟨rfl, Below.refl _ _⟩
end Go.Proofs.Ytokidpajialgbaa
namespace Go.Proofs.Ytokidpajialgbaa
set_option linter.unusedSimpArgs false
set_option linter.unusedVariables false
open Go.RowKit
/-- a text of numbers -/
def txt8 (l : List Int) : ByteArray := ⟨(l.map (fun x => UInt8.ofNat x.toNat)).toArray⟩
theorem push_all8 : ∀ (l : List Int) (b : ByteArray), l.foldl (fun r n => r.push (UInt8.ofNat n.toNat)) b = ⟨(b.data.toList ++ l.map (fun x => UInt8.ofNat x.toNat)).toArray⟩
  | [], b => by simp
  | x :: l, b => by
    rw [List.foldl_cons, push_all8 l]
    congr 1
    simp [ByteArray.push]
theorem conv_ints (w : World) (K : Option Addr) (n c : Nat) (l : List Int) (h : Ints w K .u8 l) (hn : l.length = n) :
    (convert 22 9 (.slice K n c)).run Try.prog w = .ok (.string (txt8 l)) w := by
  rw [run_convert_bytes_string w 22 9 5 _ n c Try.underlying22 Try.underlying5 Try.underlying9]
  cases K with
  | none =>
    cases l with
    | nil =>
      simp at hn
      subst hn
      rfl
    | cons x t =>
      obtain ⟨ad, e, _⟩ := h 0 (.int .u8 x) rfl
      cases e
  | some ad =>
    have hl := run_loadCells_list (P := Try.prog) w ad (l.map (.int .u8 ·)) (fun j v hv => by
      obtain ⟨a', e, hc⟩ := h j v hv
      injection e with e
      subst e
      exact hc)
    rw [List.length_map, hn] at hl
    rw [run_bytesToString w _ n c l hl, push_all8]
    rfl
/-- a block of which a row is known -/
theorem own_blk {w : World} {B n c g : Nat} {t : TypeId} {xs : List Value} (h : w.ownsRow B t 1 (.slice (some ⟨g, 0, none⟩) n c) n xs) : ∃ ys, Blk w g t (xs ++ ys) ∧ n ≤ c := by
  rcases h.2 with ⟨h1, _⟩ | ⟨g', c', cur, hv, _, hb, hc, _, hs, ht⟩
  · cases h1
  · injection hv with ha hb' hc'
    injection ha with ha
    injection ha with ha
    subst ha hc'
    rw [Nat.mul_one] at ht
    refine ⟨cur.toList.drop n, ?_, hc⟩
    show w.heap[g]? = _
    rw [hb, ← ht, List.take_append_drop]
theorem ints_of_blk {w : World} {g : Nat} {t : TypeId} {k : IntKind} {l : List Int} {ys : List Value} (h : Blk w g t (l.map (Value.int k) ++ ys)) : Ints w (some ⟨g, 0, none⟩) k l := fun i v hi => by
  refine ⟨_, rfl, ?_⟩
  have hadd : (⟨g, 0, none⟩ : Addr).add i = ⟨g, i, none⟩ := by unfold Addr.add; split <;> simp_all
  have hlt : i < (l.map (Value.int k)).length := (List.getElem?_eq_some_iff.1 hi).1
  rw [hadd, h.cell, List.getElem?_append_left hlt, hi]
end Go.Proofs.Ytokidpajialgbaa
namespace Go.Proofs.Ytokidpajialgbaa
set_option linter.unusedSimpArgs false
set_option linter.unusedVariables false
open Go.RowKit
/-- do numbers fit? -/
def fitS (most : Int) (l : List Int) : Bool := l.all fun x => decide (0 ≤ x) && decide (x ≤ most)
def FitP (b : Bool) (w : World) (e : Ending) (w' : World) : Prop := e = .returned (.bool b) ∧ w = w'
set_option maxRecDepth 100000 in
set_option maxHeartbeats 4000000 in
theorem fit_any (most : Int) (A : Option Addr) (n c : Nat) (l : List Int) (w : World) (hl : Ints w A .i64 l) (hn : l.length = n) (hm : n ≤ maxLen) : Calls Try.prog 18 #[.int .i64 most, .slice A n c] w (FitP (fitS most l) w) := by
  have m0 : maxLen = 9223372036854775807 := rfl
  have hn2 : n ≤ 9223372036854775807 := by omega
  have HL := Lib.hid hl; have HN := Lib.hid hn
  clear hl hn hm m0
  go_enter Try.func18, Try.ntmps18
  go_wp2_with fail
  go_loopw [6, 9] (fun _ i wr => ∃ k : Nat, k ≤ n ∧ i = .int .i64 (k : Nat) ∧ Hid (fitS most (l.take k) = true) ∧ w = wr) (fun _ i _ => n - (intOf i).toNat)
  case atStart => exact ⟨0, Nat.zero_le _, rfl, Lib.hid rfl, rfl⟩
  case round =>
    obtain ⟨k, hk, rfl, HF, rfl⟩ := hrel
    by_cases hlt : k < n
    · have hlt2 : (k : Int) < n := by omega
      obtain ⟨x, hx⟩ : ∃ x, l[k]? = some x := ⟨_, List.getElem?_eq_getElem (by rw [HN.out]; exact hlt)⟩
      obtain ⟨ad, rfl, hc⟩ := HL.out k (.int .i64 x) (by simp [hx])
      have v2 : IntKind.i64.wrap ((k : Int) + 1) = ((k + 1 : Nat) : Int) := by rw [IntKind.wrap_i64]; omega
      have HX := Lib.hid hx
      have hstep : fitS most (l.take (k + 1)) = (decide (0 ≤ x) && decide (x ≤ most)) := by
        have hf := HF.out
        unfold fitS at hf ⊢
        rw [List.take_add_one, hx, List.all_append, hf]
        simp
      have HS := Lib.hid hstep
      have hall : (decide (0 ≤ x) && decide (x ≤ most)) = false → fitS most l = false := by
        intro h
        unfold fitS
        rw [List.all_eq_false]
        exact ⟨x, List.mem_of_getElem? hx, by rw [h]; simp⟩
      have HALL := Lib.hid hall
      clear hx hstep hall
      by_cases h0 : x < 0
      · go_wp2_with fail
        go_ret
        exact ⟨by rw [HALL.out (by simp; omega)]; rfl, rfl⟩
      · by_cases h1 : most < x
        · go_wp2_with fail
          go_ret
          exact ⟨by rw [HALL.out (by simp; omega)]; rfl, rfl⟩
        · go_wp2_with fail
          go_roundw
          case rel => exact ⟨k + 1, by omega, by go_num, Lib.hid (by rw [HS.out]; simp; omega), by first | trivial | rfl⟩
          case measure => simp [intOf]; omega
    · obtain rfl : k = n := by omega
      have hlt2 : ¬ (k : Int) < k := by omega
      go_wp2_with fail
      go_ret
      have hf := HF.out
      rw [List.take_of_length_le (by rw [HN.out]; exact Nat.le_refl _)] at hf
      exact ⟨by rw [hf]; rfl, rfl⟩
def SomeP (w : World) (e : Ending) (w' : World) : Prop := (∃ v, e = .returned v) ∧ Below w.heap.size w w'
set_option maxRecDepth 100000 in
set_option maxHeartbeats 4000000 in
theorem pairs_nil (a b : Int) (w : World) : Calls Try.prog 51 #[.slice none 0 0, .int .i64 a, .int .i64 b] w (SomeP w) := by
  have hmk : ∀ u : World, (Instr.makeSlice 89 (.int .i64 0) (.int .i64 0)).run Try.prog u = .ok (.slice (some ⟨u.heap.size, 0, none⟩) 0 0) (u.alloc (.cells #[] 4)) := fun u => by kernel_rfl
  go_enter Try.func51, Try.ntmps51
  go_wp2_with fail
  refine wp_loop_rounds 1 ?_
  rw [rounds_succ]
  go_wp2_with fail
  refine wp_loop_rounds 1 ?_
  rw [rounds_succ]
  go_wp2_with fail
  go_ret
  exact ⟨⟨_, rfl⟩, (Below.refl _ _).alloc (Nat.le_refl _) _⟩
def SndNilP (w : World) (e : Ending) (w' : World) : Prop := e = .returned (.tuple #[.int .i64 0, .int .i64 0]) ∧ Below w.heap.size w w'
set_option maxRecDepth 100000 in
set_option maxHeartbeats 4000000 in
theorem sound_nil (w : World) : Calls Try.prog 24 #[.slice none 0 0] w (SndNilP w) := by
  go_enter Try.func24, Try.ntmps24
  go_wp2_with (first
    | (go_at_call_of 51 (Value.int .i64 36); refine (pairs_nil _ _ _).mono ?_; rintro e w2 ⟨⟨v2, rfl⟩, hb2⟩; have HB2 := Lib.hid hb2; clear hb2)
    | (go_at_call_of 51 (Value.int .i64 33); refine (pairs_nil _ _ _).mono ?_; rintro e w3 ⟨⟨v3, rfl⟩, hb3⟩; have HB3 : Hid (Below w.heap.size w w3) := Lib.hid (HB2.out.trans (hb3.mono HB2.out.size)); clear hb3))
  refine wp_loop_rounds 1 ?_
  rw [rounds_succ]
  go_wp2_with fail
  go_ret2
  exact ⟨rfl, HB3.out⟩
/-- the example's bytes -/
def exB : List Int := [90, 88, 84, 97, 112, 101, 33, 26, 1, 20]
def WrEx (w : World) (e : Ending) (w' : World) : Prop := ∃ v, e = .returned (.tuple #[v, .int .i64 0, .int .i64 0]) ∧ RowM w' w.heap.size v 10 (exB.map (.int .u8)) ∧ Below w.heap.size w w'
theorem fit_ex (w : World) (g : Nat) (hb : Blk w g 3 [.int .i64 1, .int .i64 20]) : Calls Try.prog 18 #[.int .i64 255, .slice (some ⟨g, 0, none⟩) 2 2] w (FitP true w) :=
  fit_any 255 (some ⟨g, 0, none⟩) 2 2 [1, 20] w (ints_of_blk (ys := []) hb) rfl (by decide)
/-- the head's bytes -/
def headB : List Int := [90, 88, 84, 97, 112, 101, 33, 26]
theorem num_ex (w : World) (B g P q : Nat) (hg : w.heap[g]? = some (.cells #[.int .u8 90, .int .u8 88, .int .u8 84, .int .u8 97, .int .u8 112, .int .u8 101, .int .u8 33, .int .u8 26] 5 (8, 9))) (hP : Blk w P 60 [.slice (some ⟨g, 0, none⟩) 8 8]) (hq : Blk w q 3 [.int .i64 1, .int .i64 20]) (hB : B ≤ g ∧ B ≤ P) (h1 : g ≠ P) (h2 : g ≠ q) (h3 : q ≠ P) (hw : B ≤ w.heap.size) :
    Calls Try.prog 25 #[.pointer (some ⟨P, 0, none⟩), .int .i64 1, .slice (some ⟨q, 0, none⟩) 2 2] w (NumP B P B (some q) exB w) := by
  have ho : OutAt w P B (some q) headB := ⟨_, hP, .inr ⟨g, (8, 9), rfl, hB.1, hg, rfl, by decide⟩, (fun e => h1 (Option.some.inj e)), (fun b hb e => by
    have e1 : q = b := Option.some.inj hb
    have e2 : g = b := Option.some.inj e
    exact h2 (e2.trans e1.symm))⟩
  exact num_any 1 B P B 2 2 (some ⟨q, 0, none⟩) [1, 20] headB w (some q) ho (ints_of_blk (ys := []) hq) rfl (by decide) (fun ad had => by
    have : ad = ⟨q, 0, none⟩ := (Option.some.inj had).symm
    subst this
    exact ⟨h3, .inl rfl⟩) ⟨Nat.le_refl _, hB.2, hw, hP.lt⟩ ⟨by decide, by decide⟩ (by decide) (fun b hb => by
    have e1 : q = b := Option.some.inj hb
    rw [← e1]; exact hq.lt)
/-- the three new blocks -/
theorem ex_blocks (w : World) (H C D : Array Value) (t u v : TypeId) (fz : Nat × Nat) :
    (((w.alloc (.cells H t fz)).alloc (.cells C u)).alloc (.cells D v)).heap[w.heap.size]? = some (.cells H t fz) ∧ Blk (((w.alloc (.cells H t fz)).alloc (.cells C u)).alloc (.cells D v)) (w.heap.size + 1) u C.toList ∧ Blk (((w.alloc (.cells H t fz)).alloc (.cells C u)).alloc (.cells D v)) (w.heap.size + 1 + 1) v D.toList ∧ w.heap.size ≤ (((w.alloc (.cells H t fz)).alloc (.cells C u)).alloc (.cells D v)).heap.size ∧ Below w.heap.size w (((w.alloc (.cells H t fz)).alloc (.cells C u)).alloc (.cells D v)) := by
  have e1 : (w.alloc (.cells H t fz)).heap.size = w.heap.size + 1 := by simp
  have e2 : ((w.alloc (.cells H t fz)).alloc (.cells C u)).heap.size = w.heap.size + 1 + 1 := by simp
  refine ⟨(heap_alloc_old _ _ (by omega)).trans ((heap_alloc_old _ _ (by omega)).trans (heap_alloc_new w _)), ?_, ?_, by simp; omega, (((Below.refl _ w).alloc (Nat.le_refl _) _).alloc (by omega) _).alloc (by omega) _⟩
  · have := heap_alloc_new (w.alloc (.cells H t fz)) (.cells C u)
    rw [e1] at this
    exact (heap_alloc_old _ _ (by omega)).trans this
  · have := heap_alloc_new ((w.alloc (.cells H t fz)).alloc (.cells C u)) (.cells D v)
    rw [e2] at this
    exact this
set_option maxRecDepth 100000 in
set_option maxHeartbeats 4000000 in
theorem write_ex (w : World) : Calls Try.prog 13 #[.agg #[.int .i64 1, .int .i64 20, .slice none 0 0]] w (WrEx w) := by
  have kc := fun (w : World) (C : Array Value) (n c : Nat) => Lib.run_convert_bytes_const (P := Try.prog) w 22 5 C n c Try.underlying22 Try.underlying5
  go_enter Try.func13, Try.ntmps13
  go_wp2_with (first
    | (go_at_call 18; refine (fit_ex _ _ (blk_alloc2_new w _ 3 [.int .i64 1, .int .i64 20])).mono ?_; rintro e w2 ⟨rfl, rfl⟩))
  refine wp_loop_rounds 1 ?_
  rw [rounds_succ]
  have hb0 : Below w.heap.size w ((w.alloc (.cells #[.int .i64 1, .int .i64 20, .slice none 0 0] 33)).alloc (.cells #[.int .i64 1, .int .i64 20] 3)) := ((Below.refl _ w).alloc (Nat.le_refl _) _).alloc (by simp) _
  have ht0 : Blk ((w.alloc (.cells #[.int .i64 1, .int .i64 20, .slice none 0 0] 33)).alloc (.cells #[.int .i64 1, .int .i64 20] 3)) w.heap.size 33 [.int .i64 1, .int .i64 20, .slice none 0 0] := blk_alloc2_old w _ _ _
  have HB0 := Lib.hid hb0; have HT0 := Lib.hid ht0
  clear hb0 ht0
  go_wp2_with (first
    | (go_at_call 24
       refine (sound_nil _).mono ?_
       rintro e w2 ⟨rfl, hb2⟩
       have HB2 : Hid (Below w.heap.size w w2) := Lib.hid (HB0.out.trans (hb2.mono HB0.out.size))
       have hT2 : Blk w2 w.heap.size 33 [.int .i64 1, .int .i64 20, .slice none 0 0] := HT0.out.below_ hb2
       have HT2 := Lib.hid hT2
       have z0 : ∀ o o', ((w2.alloc o).alloc o').cell? ⟨w.heap.size, 0, none⟩ = some (.int .i64 1) := fun o o' => ((hT2.alloc o).alloc o').cell 0
       have z1 : ∀ o o', ((w2.alloc o).alloc o').cell? ⟨w.heap.size, 1, none⟩ = some (.int .i64 20) := fun o o' => ((hT2.alloc o).alloc o').cell 1
       clear hb2 hT2))
  obtain ⟨x1, x2, x3, x4, x5⟩ := ex_blocks w2 #[.int .u8 90, .int .u8 88, .int .u8 84, .int .u8 97, .int .u8 112, .int .u8 101, .int .u8 33, .int .u8 26] #[.slice (some ⟨w2.heap.size, 0, none⟩) 8 8] #[.int .i64 1, .int .i64 20] 5 60 3 (8, 9)
  have X5 := Lib.hid x5
  refine (num_ex _ w2.heap.size w2.heap.size (w2.heap.size + 1) (w2.heap.size + 1 + 1) x1 x2 x3 ⟨Nat.le_refl _, Nat.le_succ _⟩ (by omega) (by omega) (by omega) x4).mono ?_
  clear x1 x2 x3 x4 x5
  rintro e w3 ⟨rfl, ho3, hb3⟩
  obtain ⟨v3, hp3, hr3, -, -⟩ := ho3
  have hlt := HT2.out.lt
  have hT3 : Blk w3 w.heap.size 33 [.int .i64 1, .int .i64 20, .slice none 0 0] := (hb3.block _ hlt).trans (((HT2.out.alloc _).alloc _).alloc _)
  have c2 : w3.cell? ⟨w.heap.size, 2, none⟩ = some (.slice none 0 0) := hT3.cell 2
  have cp : w3.cell? ⟨w2.heap.size + 1, 0, none⟩ = some v3 := hp3.cell 0
  have HR3 := Lib.hid hr3
  have HB3 : Hid (Below w.heap.size w w3) := Lib.hid (HB2.out.trans ((X5.out.trans hb3).mono HB2.out.size))
  obtain ⟨sa, sm, sc, rfl⟩ := hr3.form
  have HLT := Lib.hid hlt
  clear hp3 hr3 hb3 hT3 z0 z1 hlt X5
  go_wp2_with fail
  refine wp_loop_rounds 1 ?_
  rw [rounds_succ]
  go_wp2_with fail
  go_ret3
  exact ⟨_, rfl, HR3.out.weak (Nat.le_of_lt HLT.out), HB3.out⟩
set_option maxRecDepth 100000 in
set_option maxHeartbeats 4000000 in
theorem lives20 (w : World) : Calls Try.prog 9 #[] w (SaysB true w) := by
  go_enter Try.func9, Try.ntmps9
  go_wp2_with (first
    | (go_at_call 13
       refine (write_ex w).mono ?_
       rintro e w2 ⟨v, rfl, hr, hb⟩
       obtain ⟨A2, c2, rfl, -, -, hi⟩ := hr.ints
       have hcv : (convert 22 9 (.slice A2 10 c2)).run Try.prog w2 = .ok (.string ⟨#[90, 88, 84, 97, 112, 101, 33, 26, 1, 20]⟩) w2 := conv_ints w2 A2 10 c2 exB hi rfl
       have HB := Lib.hid hb
       clear hr hb hi))
  go_ret
  exact ⟨rfl, HB.out⟩
end Go.Proofs.Ytokidpajialgbaa
