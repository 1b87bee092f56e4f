/- Texts that are laid together: G51. -/
import Derived.Test.YtokidpajialgbaaQG50
import Derived.Laws.StructEq
import Derived.DeepKeys
namespace Go.Proofs.Ytokidpajialgbaa
set_option linter.unusedSimpArgs false
set_option linter.unusedVariables false
open Go.RowKit Go.Sort
def arr12 (l : List Int) : Array Value := (l.map (Value.int .i64)).toArray
def lit12 (l : List Int) : List Lit := l.map (Lit.int .i64)
theorem cell12 : Try.prog.cellsOf 95 = 12 := by kernel_rfl
theorem cell1i : Try.prog.cellsOf 3 = 1 := by kernel_rfl
theorem key12 : Try.prog.keyTypeAt 3 95 = true := by kernel_rfl
theorem key1 (d : Nat) (x : Int) (h : (Lit.int .i64 x).wf = true) : Try.prog.keyLits (d + 1) 3 [.int .i64 x] = some [.int .i64 x] := by
  unfold Program.keyLits
  rw [Try.underlying3]
  simp [h]
theorem form1 (x : Int) : (Value.int .i64 x).formed Try.prog 3 = true := by kernel_rfl
theorem form12 (l : List Int) (hl : l.length = 12) : (Value.agg (arr12 l)).formed Try.prog 95 = true := by
  unfold Value.formed
  rw [Try.underlying95]
  show ((arr12 l).size == Try.prog.cellsOf 95) = true
  rw [cell12]
  unfold arr12
  simp [hl]
theorem flat_lits : ∀ l : List Int, (l.map fun x => [Lit.int .i64 x]).flatten = lit12 l
  | [] => rfl
  | x :: l => by rw [List.map_cons, List.flatten_cons, flat_lits l]; rfl
theorem keys12 (l : List Int) (hl : l.length = 12) (h : ∀ x ∈ l, (Lit.int .i64 x).wf = true) : Try.prog.keyLits 3 95 (Value.agg (arr12 l)).cells.toList = some (lit12 l) := by
  have hc : (Value.agg (arr12 l)).cells.toList = l.map (Value.int .i64) := by show (arr12 l).toList = _; unfold arr12; simp
  rw [hc]
  unfold Program.keyLits
  rw [Try.underlying95]
  have hlen : (l.map (Value.int .i64)).length = Try.prog.cellsOf 95 := by rw [cell12, List.length_map, hl]
  simp only [hlen, if_true, cell1i, Nat.mul_one]
  have hm : (List.range 12).mapM (fun i => Try.prog.keyLits 2 3 (((l.map (Value.int .i64)).drop i).take 1)) = some (l.map fun x => [Lit.int .i64 x]) := by
    have key : ∀ (n : Nat), n ≤ l.length → (List.range n).mapM (fun i => Try.prog.keyLits 2 3 (((l.map (Value.int .i64)).drop i).take 1)) = some ((l.take n).map fun x => [Lit.int .i64 x]) := by
      intro n
      induction n with
      | zero => intro _; rfl
      | succ n ih =>
        intro hn
        have hx : l[n]? = some l[n] := List.getElem?_eq_getElem (by omega)
        have hd : ((l.map (Value.int .i64)).drop n).take 1 = [.int .i64 l[n]] := by
          rw [List.drop_eq_getElem_cons (by simp; omega), List.take_succ_cons, List.take_zero, List.getElem_map]
        rw [List.range_succ, List.mapM_append, ih (by omega)]
        simp only [List.mapM_cons, List.mapM_nil, hd, key1 1 l[n] (h _ (List.getElem_mem _))]
        simp
        rw [List.take_add_one, List.getElem?_map, hx]
        rfl
    have := key 12 (by omega)
    rw [List.take_of_length_le (by omega)] at this
    exact this
  rw [hm]
  simp only [Option.map_some, flat_lits]
theorem lits_inj : ∀ (l m : List Int), lit12 l = lit12 m → l = m
  | [], [], _ => rfl
  | [], y :: m, h => by cases h
  | x :: l, [], h => by cases h
  | x :: l, y :: m, h => by
    unfold lit12 at h
    rw [List.map_cons, List.map_cons] at h
    injection h with h1 h2
    injection h1 with _ h1
    rw [h1, lits_inj l m h2]
theorem eqg12 (l m : List Int) (hl : l.length = 12) (hm : m.length = 12) (x y : Operand) (u : World) : (eqGuard .eql 95 x y (.agg (arr12 l)) (.agg (arr12 m))).run Try.prog u = .ok () u := by
  simp [go_sem]
theorem cmp12 (l m : List Int) (hl : l.length = 12) (hm : m.length = 12) (h1 : ∀ x ∈ l, (Lit.int .i64 x).wf = true) (h2 : ∀ x ∈ m, (Lit.int .i64 x).wf = true) (x y : Operand) (u : World) :
    (do eqGuard .eql 95 x y (.agg (arr12 l)) (.agg (arr12 m)); binOp .eql 95 (.agg (arr12 l)) (.agg (arr12 m)) : Sem Value).run Try.prog u = .ok (.bool (decide (l = m))) u := by
  rw [Sem.run_bind, eqg12 l m hl hm]
  simp only [Result.andThen_ok]
  rw [run_eql_struct]
  obtain ⟨r, hr, hiff⟩ := run_equalIn_deep 9997 3 95 key12 u 3 3 (.agg (arr12 l)) (.agg (arr12 m)) (lit12 l) (lit12 m) (form12 l hl) (form12 m hm) (keys12 l hl h1) (keys12 m hm h2)
  have hr' : (Op.equalIn 10000 95 (.agg (arr12 l)) (.agg (arr12 m))).run Try.prog u = .ok r u := hr
  rw [hr', Result.andThen_ok]
  have : r = decide (l = m) := by
    by_cases h : l = m
    · rw [decide_eq_true h]; exact hiff.2 (by rw [h])
    · rw [decide_eq_false h]
      cases r with
      | false => rfl
      | true => exact absurd (lits_inj _ _ (hiff.1 rfl)) h
  rw [this]
/-- two values compared, in a plain region -/
theorem wpList_binTo {P : Program} {ops : Array Oper} {rest : List Oper} {o : Oper} {a : Act} {w : World} {Q : Exit → Act → World → Prop} (hg : o.guard = none) (op : BinOp) (ty : TypeId) (x y : Operand) (ty' : TypeId) (ho : o.op = .binOp op ty x y ty') (dst : Option Tmp) (hdst : o.dst = dst) (v vx vy : Value) (hx : a.eval x = vx) (hy : a.eval y = vy)
    (hr : (do eqGuard op ty x y vx vy; binOp op ty vx vy : Sem Value).run P w = .ok v w) (h : wpList P ops Q rest (a.put dst v) w) : wpList P ops Q (o :: rest) a w := by
  subst hdst
  refine wpList_plain hg fun K hK => ?_
  unfold Oper.wp execOp
  simp only [ho, hx, hy, Sem.run_bind, Sem.run_pure]
  rw [Sem.run_bind] at hr
  rw [hr]
  exact hK _ _ h
end Go.Proofs.Ytokidpajialgbaa
namespace Go.Proofs.Ytokidpajialgbaa
set_option linter.unusedSimpArgs false
set_option linter.unusedVariables false
open Go.RowKit Go.Sort
def TB.eqB (a b : TB) : Bool := decide (a.nums = b.nums) && (decide (a.items = b.items) && (decide (a.data = b.data) && (decide (a.times = b.times) && (decide (a.reps = b.reps) && (decide (a.pilots = b.pilots) && decide (a.syms = b.syms))))))
theorem TB.eqB_refl (a : TB) : a.eqB a = true := by unfold TB.eqB; simp
theorem heap_ltS {w : World} {g : Nat} {o : Obj} (h : w.heap[g]? = some o) : g < w.heap.size := by
  rcases Nat.lt_or_ge g w.heap.size with h1 | h1
  · exact h1
  · rw [Array.getElem?_eq_none h1] at h; cases h
theorem zero12 : ∃ Z : Array Value, (Try.prog.info? 95).bind (·.zero) = some (.agg Z) ∧ Z.size = 12 := by
  have h : ((Try.prog.info? 95).bind (·.zero)).map (fun z => match z with | .agg c => c.size == 12 | _ => false) = some true := by kernel_rfl
  cases hz : (Try.prog.info? 95).bind (·.zero) with
  | none => rw [hz] at h; cases h
  | some z =>
    rw [hz] at h
    cases z with
    | agg c =>
      have h' : (c.size == 12) = true := by injection h
      exact ⟨c, rfl, by simpa using h'⟩
    | _ => cases h
theorem info12 : (Try.prog.info? 95).map (·.size) = some 12 := by kernel_rfl
set_option maxRecDepth 100000 in
theorem built12 (x0 x1 x2 x3 x4 x5 x6 x7 x8 x9 x10 x11 : Int) : Try.prog.built 95 [(0, .int .i64 x0), (1, .int .i64 x1), (2, .int .i64 x2), (3, .int .i64 x3), (4, .int .i64 x4), (5, .int .i64 x5), (6, .int .i64 x6), (7, .int .i64 x7), (8, .int .i64 x8), (9, .int .i64 x9), (10, .int .i64 x10), (11, .int .i64 x11)] = some (arr12 [x0, x1, x2, x3, x4, x5, x6, x7, x8, x9, x10, x11]) := by kernel_rfl
set_option maxRecDepth 100000 in
set_option maxHeartbeats 20000000 in
theorem sameBlock_any (cs1 cs2 : List Value) (B1 B2 : TB) (w : World) (h1 : TBV w cs1 B1) (h2 : TBV w cs2 B2) :
    Calls Try.prog 30 #[.agg cs1.toArray, .agg cs2.toArray] w (SaysB (B1.eqB B2) w) := by
  obtain ⟨wf1, d1, t1, i1, p1, s1, r1, hcs1, hd1, ht1, hi1, hp1, hs1, hr1⟩ := h1
  obtain ⟨wf2, d2, t2, i2, p2, s2, r2, hcs2, hd2, ht2, hi2, hp2, hs2, hr2⟩ := h2
  obtain ⟨b, hb⟩ : ∃ b, b = w.heap.size := ⟨_, rfl⟩
  obtain ⟨wa, hwa⟩ : ∃ wa, wa = w.alloc (.cells cs1.toArray 28) := ⟨_, rfl⟩
  obtain ⟨bb, hbb⟩ : ∃ b, b = wa.heap.size := ⟨_, rfl⟩
  obtain ⟨wb, hwb⟩ : ∃ wb, wb = wa.alloc (.cells cs2.toArray 28) := ⟨_, rfl⟩
  obtain ⟨bx, hbx⟩ : ∃ b, b = wb.heap.size := ⟨_, rfl⟩
  obtain ⟨X1, hX1⟩ : ∃ X : Array Value, X = #[.int .i64 B1.id, .int .i64 B1.pause, .int .i64 B1.pilot, .int .i64 B1.sync1, .int .i64 B1.sync2, .int .i64 B1.zero, .int .i64 B1.one, .int .i64 B1.tone, .int .i64 B1.count, .int .i64 B1.used, .int .i64 B1.rate, .int .i64 B1.pack] := ⟨_, rfl⟩
  obtain ⟨X2, hX2⟩ : ∃ X : Array Value, X = #[.int .i64 B2.id, .int .i64 B2.pause, .int .i64 B2.pilot, .int .i64 B2.sync1, .int .i64 B2.sync2, .int .i64 B2.zero, .int .i64 B2.one, .int .i64 B2.tone, .int .i64 B2.count, .int .i64 B2.used, .int .i64 B2.rate, .int .i64 B2.pack] := ⟨_, rfl⟩
  obtain ⟨wc, hwc⟩ : ∃ wc, wc = wb.alloc (.cells X1 95) := ⟨_, rfl⟩
  obtain ⟨by_, hby⟩ : ∃ b, b = wc.heap.size := ⟨_, rfl⟩
  obtain ⟨wd, hwd⟩ : ∃ wd, wd = wc.alloc (.cells X2 95) := ⟨_, rfl⟩
  have kab : Below w.heap.size w wa := by rw [hwa]; exact (Below.refl _ w).alloc (Nat.le_refl _) _
  have kbc : Below wa.heap.size wa wb := by rw [hwb]; exact (Below.refl _ wa).alloc (Nat.le_refl _) _
  have kcd : Below wb.heap.size wb wc := by rw [hwc]; exact (Below.refl _ wb).alloc (Nat.le_refl _) _
  have kde : Below wc.heap.size wc wd := by rw [hwd]; exact (Below.refl _ wc).alloc (Nat.le_refl _) _
  have kwb : Below w.heap.size w wb := kab.trans (kbc.mono kab.size)
  have kwc : Below w.heap.size w wc := kwb.trans (kcd.mono kwb.size)
  have kwd : Below w.heap.size w wd := kwc.trans (kde.mono kwc.size)
  have hA1 : Blk wb b 28 cs1 := by
    have : Blk wa b 28 cs1 := by rw [hwa, hb]; exact Blk.new w _ _
    exact this.below_ kbc
  have hA2 : Blk wb bb 28 cs2 := by rw [hwb, hbb]; exact Blk.new wa _ _
  have hC1 : Blk wc b 28 cs1 := hA1.below_ kcd
  have hC2 : Blk wc bb 28 cs2 := hA2.below_ kcd
  have hD1 : Blk wd b 28 cs1 := hC1.below_ kde
  have hD2 : Blk wd bb 28 cs2 := hC2.below_ kde
  have hbl1 : X1.size = 12 := by rw [hX1]; rfl
  have hbl2 : X2.size = 12 := by rw [hX2]; rfl
  have hrx : wd.heap[bx]? = some (.cells X1 95 (0, 0)) := by
    have : wc.heap[bx]? = some (.cells X1 95 (0, 0)) := by rw [hwc, hbx]; exact heap_alloc_new wb _
    rw [kde.block bx (heap_ltS this)]; exact this
  have hry : wd.heap[by_]? = some (.cells X2 95 (0, 0)) := by rw [hwd, hby]; exact heap_alloc_new wc _
  have HCM : Hid (∀ u, (do eqGuard .eql 95 (.tmp 63) (.tmp 64) (.agg X1) (.agg X2); binOp .eql 95 (.agg X1) (.agg X2) : Sem Value).run Try.prog u = .ok (.bool (decide (B1.nums = B2.nums))) u) := by show ∀ u, _ = _; rw [hX1, hX2]; exact fun u => cmp12 _ _ rfl rfl wf1 wf2 _ _ u
  have HEI := Lib.hid (fun u (hu : Below w.heap.size w u) => eqItems_any i1 i2 B1.items B2.items u (hi1.below hu) (hi2.below hu))
  have HET := Lib.hid (fun u (hu : Below w.heap.size w u) => eqInts_any t1 t2 B1.times B2.times u (ht1.below hu) (ht2.below hu))
  have HER := Lib.hid (fun u (hu : Below w.heap.size w u) => eqReps_any r1 r2 B1.reps B2.reps u (hr1.below hu) (hr2.below hu))
  have HEP := Lib.hid (fun u (hu : Below w.heap.size w u) => sameSyms_any p1 p2 B1.pilots B2.pilots u (hp1.below hu) (hp2.below hu))
  have HES := Lib.hid (fun u (hu : Below w.heap.size w u) => sameSyms_any s1 s2 B1.syms B2.syms u (hs1.below hu) (hs2.below hu))
  obtain ⟨A1, c1, hv1, ia1, -, -, wd1⟩ := hd1
  obtain ⟨A2, c2, hv2, ia2, -, -, wd2⟩ := hd2
  have hstr := txt8_eq B1.data B2.data wd1 wd2
  obtain ⟨n1, hn1⟩ : ∃ n, n = B1.data.length := ⟨_, rfl⟩
  obtain ⟨n2, hn2⟩ : ∃ n, n = B2.data.length := ⟨_, rfl⟩
  rw [← hn1] at hv1; rw [← hn2] at hv2
  obtain ⟨T1, hT1⟩ : ∃ T, T = txt8 B1.data := ⟨_, rfl⟩
  obtain ⟨T2, hT2⟩ : ∃ T, T = txt8 B2.data := ⟨_, rfl⟩
  have HV1 : Hid (∀ u, Below w.heap.size w u → (convert 22 9 d1).run Try.prog u = .ok (.string T1) u) := Lib.hid (fun u hu => by rw [hv1, hT1]; exact RowV.conv (Cells.below ia1 hu) hn1.symm)
  have HV2 : Hid (∀ u, Below w.heap.size w u → (convert 22 9 d2).run Try.prog u = .ok (.string T2) u) := Lib.hid (fun u hu => by rw [hv2, hT2]; exact RowV.conv (Cells.below ia2 hu) hn2.symm)
  rw [← hT1, ← hT2] at hstr
  unfold TB.eqB
  have HXF : Hid (wb.cell? ⟨b, 0, none⟩ = some (.int .i64 B1.id) ∧ wb.cell? ⟨b, 1, none⟩ = some (.int .i64 B1.pause) ∧ wb.cell? ⟨b, 2, none⟩ = some (.int .i64 B1.pilot) ∧ wb.cell? ⟨b, 3, none⟩ = some (.int .i64 B1.sync1) ∧ wb.cell? ⟨b, 4, none⟩ = some (.int .i64 B1.sync2) ∧ wb.cell? ⟨b, 5, none⟩ = some (.int .i64 B1.zero) ∧ wb.cell? ⟨b, 6, none⟩ = some (.int .i64 B1.one) ∧ wb.cell? ⟨b, 7, none⟩ = some (.int .i64 B1.tone) ∧ wb.cell? ⟨b, 8, none⟩ = some (.int .i64 B1.count) ∧ wb.cell? ⟨b, 9, none⟩ = some (.int .i64 B1.used) ∧ wb.cell? ⟨b, 10, none⟩ = some (.int .i64 B1.rate) ∧ wb.cell? ⟨b, 11, none⟩ = some (.int .i64 B1.pack)) := Lib.hid ⟨(hA1.cell 0).trans (by rw [hcs1]; rfl), (hA1.cell 1).trans (by rw [hcs1]; rfl), (hA1.cell 2).trans (by rw [hcs1]; rfl), (hA1.cell 3).trans (by rw [hcs1]; rfl), (hA1.cell 4).trans (by rw [hcs1]; rfl), (hA1.cell 5).trans (by rw [hcs1]; rfl), (hA1.cell 6).trans (by rw [hcs1]; rfl), (hA1.cell 7).trans (by rw [hcs1]; rfl), (hA1.cell 8).trans (by rw [hcs1]; rfl), (hA1.cell 9).trans (by rw [hcs1]; rfl), (hA1.cell 10).trans (by rw [hcs1]; rfl), (hA1.cell 11).trans (by rw [hcs1]; rfl)⟩
  have HYF : Hid (wc.cell? ⟨bb, 0, none⟩ = some (.int .i64 B2.id) ∧ wc.cell? ⟨bb, 1, none⟩ = some (.int .i64 B2.pause) ∧ wc.cell? ⟨bb, 2, none⟩ = some (.int .i64 B2.pilot) ∧ wc.cell? ⟨bb, 3, none⟩ = some (.int .i64 B2.sync1) ∧ wc.cell? ⟨bb, 4, none⟩ = some (.int .i64 B2.sync2) ∧ wc.cell? ⟨bb, 5, none⟩ = some (.int .i64 B2.zero) ∧ wc.cell? ⟨bb, 6, none⟩ = some (.int .i64 B2.one) ∧ wc.cell? ⟨bb, 7, none⟩ = some (.int .i64 B2.tone) ∧ wc.cell? ⟨bb, 8, none⟩ = some (.int .i64 B2.count) ∧ wc.cell? ⟨bb, 9, none⟩ = some (.int .i64 B2.used) ∧ wc.cell? ⟨bb, 10, none⟩ = some (.int .i64 B2.rate) ∧ wc.cell? ⟨bb, 11, none⟩ = some (.int .i64 B2.pack)) := Lib.hid ⟨(hC2.cell 0).trans (by rw [hcs2]; rfl), (hC2.cell 1).trans (by rw [hcs2]; rfl), (hC2.cell 2).trans (by rw [hcs2]; rfl), (hC2.cell 3).trans (by rw [hcs2]; rfl), (hC2.cell 4).trans (by rw [hcs2]; rfl), (hC2.cell 5).trans (by rw [hcs2]; rfl), (hC2.cell 6).trans (by rw [hcs2]; rfl), (hC2.cell 7).trans (by rw [hcs2]; rfl), (hC2.cell 8).trans (by rw [hcs2]; rfl), (hC2.cell 9).trans (by rw [hcs2]; rfl), (hC2.cell 10).trans (by rw [hcs2]; rfl), (hC2.cell 11).trans (by rw [hcs2]; rfl)⟩
  have HK : Hid (∀ u, Below wd.heap.size wd u → u.cell? ⟨b, 12, none⟩ = some d1 ∧ u.cell? ⟨bb, 12, none⟩ = some d2 ∧ u.cell? ⟨b, 13, none⟩ = some t1 ∧ u.cell? ⟨bb, 13, none⟩ = some t2 ∧ u.cell? ⟨b, 14, none⟩ = some i1 ∧ u.cell? ⟨bb, 14, none⟩ = some i2 ∧ u.cell? ⟨b, 15, none⟩ = some p1 ∧ u.cell? ⟨bb, 15, none⟩ = some p2 ∧ u.cell? ⟨b, 16, none⟩ = some s1 ∧ u.cell? ⟨bb, 16, none⟩ = some s2 ∧ u.cell? ⟨b, 17, none⟩ = some r1 ∧ u.cell? ⟨bb, 17, none⟩ = some r2) := Lib.hid (fun u hu => by
    have hu1 := hD1.below_ hu; have hu2 := hD2.below_ hu
    exact ⟨(hu1.cell 12).trans (by rw [hcs1]; rfl), (hu2.cell 12).trans (by rw [hcs2]; rfl), (hu1.cell 13).trans (by rw [hcs1]; rfl), (hu2.cell 13).trans (by rw [hcs2]; rfl), (hu1.cell 14).trans (by rw [hcs1]; rfl), (hu2.cell 14).trans (by rw [hcs2]; rfl), (hu1.cell 15).trans (by rw [hcs1]; rfl), (hu2.cell 15).trans (by rw [hcs2]; rfl), (hu1.cell 16).trans (by rw [hcs1]; rfl), (hu2.cell 16).trans (by rw [hcs2]; rfl), (hu1.cell 17).trans (by rw [hcs1]; rfl), (hu2.cell 17).trans (by rw [hcs2]; rfl)⟩)
  have HXX := Lib.hid hrx; have HYY := Lib.hid hry
  have HL1 := Lib.hid hbl1; have HL2 := Lib.hid hbl2;
  have HB := Lib.hid hb; have HBB := Lib.hid hbb; have HBX := Lib.hid hbx; have HBY := Lib.hid hby
  have HWC : Hid (wc = wb.alloc (.cells #[.int .i64 B1.id, .int .i64 B1.pause, .int .i64 B1.pilot, .int .i64 B1.sync1, .int .i64 B1.sync2, .int .i64 B1.zero, .int .i64 B1.one, .int .i64 B1.tone, .int .i64 B1.count, .int .i64 B1.used, .int .i64 B1.rate, .int .i64 B1.pack] 95)) := by show _ = _; rw [hwc, hX1]
  have HWD : Hid (wd = wc.alloc (.cells #[.int .i64 B2.id, .int .i64 B2.pause, .int .i64 B2.pilot, .int .i64 B2.sync1, .int .i64 B2.sync2, .int .i64 B2.zero, .int .i64 B2.one, .int .i64 B2.tone, .int .i64 B2.count, .int .i64 B2.used, .int .i64 B2.rate, .int .i64 B2.pack] 95)) := by show _ = _; rw [hwd, hX2]
  have HWA := Lib.hid hwa; have HWB := Lib.hid hwb
  have HKD := Lib.hid kwd
  have HIX : Hid ((Try.prog.info? 95).map (·.size) = some X1.size) := by show _ = _; rw [hbl1]; exact info12
  have HIY : Hid ((Try.prog.info? 95).map (·.size) = some X2.size) := by show _ = _; rw [hbl2]; exact info12
  generalize decide (B1.nums = B2.nums) = rN at HCM ⊢
  generalize decide (B1.items = B2.items) = rI at HEI ⊢
  generalize decide (B1.data = B2.data) = rD at hstr ⊢
  generalize decide (B1.times = B2.times) = rT at HET ⊢
  generalize decide (B1.reps = B2.reps) = rR at HER ⊢
  generalize decide (B1.pilots = B2.pilots) = rP at HEP ⊢
  generalize decide (B1.syms = B2.syms) = rS at HES ⊢
  clear wf1 wf2 hcs1 hcs2 ht1 hi1 hp1 hs1 hr1 ht2 hi2 hp2 hs2 hr2 hb hwa hbb hwb hbx hX1 hX2 hwc hby hwd kab kbc kcd kde kwb kwc kwd hA1 hA2 hC1 hC2 hD1 hD2 hbl1 hbl2 hrx hry hv1 hv2 ia1 ia2 wd1 wd2 hn1 hn2 hT1 hT2
  go_enter Try.func30, Try.ntmps30
  go_upto_region 0 with fail
  refine wp_region_list ?_
  refine Great.wpList_boxTo rfl 28 (.tmp 0) rfl (some 2) rfl b HB.out.symm cs1.toArray rfl ?_
  rw [← HWA.out]
  refine Great.wpList_boxTo rfl 28 (.tmp 1) rfl (some 3) rfl bb HBB.out.symm cs2.toArray rfl ?_
  rw [← HWB.out]
  obtain ⟨x0, x1, x2, x3, x4, x5, x6, x7, x8, x9, x10, x11⟩ := HXF.out
  go_upto_region 2 with fail
  rw [← HWC.out, ← HBX.out]
  clear x0 x1 x2 x3 x4 x5 x6 x7 x8 x9 x10 x11
  obtain ⟨y0, y1, y2, y3, y4, y5, y6, y7, y8, y9, y10, y11⟩ := HYF.out
  go_upto_region 3 with fail
  rw [← HWD.out, ← HBY.out]
  clear y0 y1 y2 y3 y4 y5 y6 y7 y8 y9 y10 y11
  obtain ⟨x12, y12, x13, y13, x14, y14, x15, y15, x16, y16, x17, y17⟩ := HK.out wd (Below.refl _ _)
  clear x12 y12 x13 y13 x15 y15 x16 y16 x17 y17
  go_upto_region 4 with (first
    | (go_at_call 58
       refine (HEI.out _ HKD.out).mono ?_
       rintro e we ⟨rfl, hbe⟩
       have HBE := Lib.hid hbe
       clear hbe))
  have HXW : Hid (we.heap[bx]? = some (.cells X1 95 (0, 0))) := by show _ = _; rw [HBE.out.block bx (heap_ltS HXX.out)]; exact HXX.out
  have HYW : Hid (we.heap[by_]? = some (.cells X2 95 (0, 0))) := by show _ = _; rw [HBE.out.block by_ (heap_ltS HYY.out)]; exact HYY.out
  clear x14 y14
  obtain ⟨x12, y12, x13, y13, x14, y14, x15, y15, x16, y16, x17, y17⟩ := HK.out we HBE.out
  have hcv1 := HV1.out we (HKD.out.trans (HBE.out.mono HKD.out.size))
  have hcv2 := HV2.out we (HKD.out.trans (HBE.out.mono HKD.out.size))
  refine wp_region_list ?_
  refine wpList_load_row rfl 95 (.tmp 5) rfl bx rfl 95 X1 (0, 0) _ HXW.out Try.underlying95 rfl HIX.out ?_
  refine wpList_load_row rfl 95 (.tmp 6) rfl by_ rfl 95 X2 (0, 0) _ HYW.out Try.underlying95 rfl HIY.out ?_
  refine wpList_binTo rfl .eql 95 (.tmp 63) (.tmp 64) 95 rfl (some 65) rfl (.bool rN) (.agg X1) (.agg X2) rfl rfl (HCM.out _) ?_
  cases rN
  · go_wp2_with fail
    go_ret
    exact ⟨rfl, HKD.out.trans (HBE.out.mono HKD.out.size)⟩
  · cases rI
    · go_wp2_with fail
      go_ret
      exact ⟨rfl, HKD.out.trans (HBE.out.mono HKD.out.size)⟩
    · cases rD
      · go_wp2_with fail
        go_ret
        exact ⟨rfl, HKD.out.trans (HBE.out.mono HKD.out.size)⟩
      · go_wp2_with (first
      | (go_at_call 60; refine (HET.out _ (HKD.out.trans (HBE.out.mono HKD.out.size))).mono ?_; rintro e wq ⟨rfl, hbq⟩; have HBE := Lib.hid (HBE.out.trans (hbq.mono HBE.out.size)); clear hbq x12 y12 x13 y13 x14 y14 x15 y15 x16 y16 x17 y17; obtain ⟨x12, y12, x13, y13, x14, y14, x15, y15, x16, y16, x17, y17⟩ := HK.out _ HBE.out; cases rT)
      | (go_at_call 61; refine (HER.out _ (HKD.out.trans (HBE.out.mono HKD.out.size))).mono ?_; rintro e wq ⟨rfl, hbq⟩; have HBE := Lib.hid (HBE.out.trans (hbq.mono HBE.out.size)); clear hbq x12 y12 x13 y13 x14 y14 x15 y15 x16 y16 x17 y17; obtain ⟨x12, y12, x13, y13, x14, y14, x15, y15, x16, y16, x17, y17⟩ := HK.out _ HBE.out; cases rR)
      | (go_at_call_of 62 p1; refine (HEP.out _ (HKD.out.trans (HBE.out.mono HKD.out.size))).mono ?_; rintro e wq ⟨rfl, hbq⟩; have HBE := Lib.hid (HBE.out.trans (hbq.mono HBE.out.size)); clear hbq x12 y12 x13 y13 x14 y14 x15 y15 x16 y16 x17 y17; obtain ⟨x12, y12, x13, y13, x14, y14, x15, y15, x16, y16, x17, y17⟩ := HK.out _ HBE.out; cases rP)
      | (go_at_call_of 62 s1; refine (HES.out _ (HKD.out.trans (HBE.out.mono HKD.out.size))).mono ?_; rintro e wq ⟨rfl, hbq⟩; have HBE := Lib.hid (HBE.out.trans (hbq.mono HBE.out.size)); clear hbq x12 y12 x13 y13 x14 y14 x15 y15 x16 y16 x17 y17; obtain ⟨x12, y12, x13, y13, x14, y14, x15, y15, x16, y16, x17, y17⟩ := HK.out _ HBE.out; cases rS))
        all_goals
          go_ret
          exact ⟨rfl, HKD.out.trans (HBE.out.mono HKD.out.size)⟩
end Go.Proofs.Ytokidpajialgbaa
namespace Go.Proofs.Ytokidpajialgbaa
set_option linter.unusedSimpArgs false
set_option linter.unusedVariables false
open Go.RowKit Go.Sort
def eqAt (l1 l2 : List TB) (i : Nat) : Bool := (l1.getD i {}).eqB (l2.getD i {})
def blksEq (l1 l2 : List TB) : Bool := decide (l1.length = l2.length) && allK (eqAt l1 l2) l1.length
def tapesEq (a b c d : Int) (l1 l2 : List TB) : Bool := decide (a = c) && (decide (b = d) && blksEq l1 l2)
theorem blksEq_refl (l : List TB) : blksEq l l = true := by
  unfold blksEq
  rw [decide_eq_true rfl, Bool.true_and]
  exact allK_of (fun j _ => TB.eqB_refl _)
theorem tapesEq_refl (a b : Int) (l : List TB) : tapesEq a b a b l l = true := by unfold tapesEq; rw [blksEq_refl]; simp
theorem PairsV.one {w : World} {k : IntKind} {v : Value} {l : List (Int × List Int)} (h : PairsV w k v l) : v.oneCell' = true := by
  obtain ⟨A, c, rfl, _⟩ := h
  rfl
theorem RepsV.one {w : World} {v : Value} {l : List (Int × Int)} (h : RepsV w v l) : v.oneCell' = true := by
  obtain ⟨A, c, rfl, _⟩ := h
  rfl
theorem TBV.one {w : World} {cs : List Value} {B : TB} (h : TBV w cs B) : cs.toArray.all (·.oneCell') = true := by
  obtain ⟨_, d, t, i, p, s, r, hc, hd, ht, hi, hp, hs, hr⟩ := h
  have h1 := hd.one; have h2 := ht.one; have h3 := hi.one; have h4 := hp.one; have h5 := hs.one; have h6 := hr.one
  rw [hc]
  simp [TB.cells, h1, h2, h3, h4, h5, h6]
  exact ⟨rfl, rfl, rfl, rfl, rfl, rfl, rfl, rfl, rfl, rfl, rfl, rfl⟩
/-- blocks as elements -/
theorem BlksV.elems {w : World} {v : Value} {l : List TB} (h : BlksV w v l) : ∃ A c E, v = .slice A l.length c ∧ l.length ≤ maxLen ∧ ElemsAt w A 18 l.length E ∧ ∀ i B, l[i]? = some B → TBV w (E i) B := by
  obtain ⟨A, c, hv, h1, h2, h3⟩ := h
  obtain ⟨E, hE⟩ := Go.Deep.choose_lt (α := List Value) (n := l.length) (p := fun i e => ∃ B, l[i]? = some B ∧ TBV w e B ∧ ∃ g o : Nat, A = some ⟨g, o, none⟩ ∧ w.rangeAt g (o + i * 18) e) (fun i hi => by
    obtain ⟨B, hB⟩ : ∃ x, l[i]? = some x := ⟨_, List.getElem?_eq_getElem hi⟩
    obtain ⟨g, o, cs, h4, h5, h6⟩ := h3 i B hB
    exact ⟨cs, B, hB, h6, g, o, h4, h5⟩)
  refine ⟨A, c, E, hv, by omega, fun i hi => ?_, fun i B hB => ?_⟩
  · obtain ⟨B, hB, ht, g, o, h4, h5⟩ := hE i hi
    exact ⟨g, o, h4, h5, ht.len, ht.one⟩
  · obtain ⟨B', hB', ht, _⟩ := hE i (List.getElem?_eq_some_iff.1 hB).1
    rw [hB] at hB'
    obtain rfl := Option.some.inj hB'
    exact ht
theorem eqBlks_any (v1 v2 : Value) (l1 l2 : List TB) (w : World) (h1 : BlksV w v1 l1) (h2 : BlksV w v2 l2) :
    Calls Try.prog 29 #[v1, v2, .func (.func 30) #[] #[]] w (SaysB (blksEq l1 l2) w) := by
  obtain ⟨A1, c1, E1, rfl, m1, e1, r1⟩ := h1.elems
  obtain ⟨A2, c2, E2, rfl, m2, e2, r2⟩ := h2.elems
  refine eqFuncBlks A1 A2 _ _ c1 c2 E1 E2 _ w e1 e2 m1 (fun k hk1 hk2 u hu => ?_)
  have hx : l1[k]? = some (l1.getD k {}) := by simp [List.getD, List.getElem?_eq_getElem hk1]
  have hy : l2[k]? = some (l2.getD k {}) := by simp [List.getD, List.getElem?_eq_getElem hk2]
  exact sameBlock_any _ _ _ _ u ((r1 k _ hx).below hu) ((r2 k _ hy).below hu)
set_option maxRecDepth 100000 in
set_option maxHeartbeats 4000000 in
theorem same_any (a b c d : Int) (v1 v2 : Value) (l1 l2 : List TB) (w : World) (h1 : BlksV w v1 l1) (h2 : BlksV w v2 l2) :
    Calls Try.prog 15 #[.agg #[.int .i64 a, .int .i64 b, v1], .agg #[.int .i64 c, .int .i64 d, v2]] w (SaysB (tapesEq a b c d l1 l2) w) := by
  have hb : Below w.heap.size w ((w.alloc (.cells #[.int .i64 a, .int .i64 b, v1] 33)).alloc (.cells #[.int .i64 c, .int .i64 d, v2] 33)) := ((Below.refl _ w).alloc (Nat.le_refl _) _).alloc (by simp) _
  have HB := Lib.hid hb
  have HE := Lib.hid (fun u (hu : Below w.heap.size w u) => eqBlks_any v1 v2 l1 l2 u (h1.below hu) (h2.below hu))
  obtain ⟨A1, c1, rfl, -⟩ := h1
  obtain ⟨A2, c2, rfl, -⟩ := h2
  clear hb
  unfold tapesEq
  generalize blksEq l1 l2 = r at HE ⊢
  by_cases hac : a = c
  · subst hac
    by_cases hbd : b = d
    · subst hbd
      rw [decide_eq_true rfl, decide_eq_true rfl, Bool.true_and, Bool.true_and]
      go_enter Try.func15, Try.ntmps15
      go_wp2_with (first
        | (go_at_call 29; refine (HE.out _ HB.out).mono ?_; rintro e w2 ⟨rfl, hb2⟩))
      go_ret
      exact ⟨rfl, HB.out.trans (hb2.mono HB.out.size)⟩
    · rw [decide_eq_true rfl, decide_eq_false hbd]
      have hne : (b == d) = false := by simpa using hbd
      clear HE
      go_enter Try.func15, Try.ntmps15
      go_wp2_with fail
      go_ret
      exact ⟨rfl, HB.out⟩
  · rw [decide_eq_false hac]
    have hne : (a == c) = false := by simpa using hac
    clear HE
    go_enter Try.func15, Try.ntmps15
    go_wp2_with fail
    go_ret
    exact ⟨rfl, HB.out⟩
end Go.Proofs.Ytokidpajialgbaa
