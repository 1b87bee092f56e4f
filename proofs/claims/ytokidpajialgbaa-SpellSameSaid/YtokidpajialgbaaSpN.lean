/- squealref19.Same, SameTape. -/
import Derived.Test.YtokidpajialgbaaSpK
namespace Go.Proofs.Ytokidpajialgbaa
set_option linter.unusedSimpArgs false
set_option linter.unusedVariables false
open Go.RowKit Go.Sort
theorem refSame_any (cs1 cs2 : List Value) (B1 B2 : TB) (w : World) (h1 : TBV w cs1 B1) (h2 : TBV w cs2 B2) :
    Calls Try.prog 23 #[.agg cs1.toArray, .agg cs2.toArray] w (SaysB (B1.eqB B2) w) := by
  by_cases hN : B1.nums = B2.nums
  · exact refSame_eq cs1 cs2 B1 B2 w h1 h2 hN
  rw [eqB_nums hN]
  obtain ⟨_, d1, t1, i1, p1, s1, r1, hc1, -⟩ := h1
  obtain ⟨_, d2, t2, i2, p2, s2, r2, hc2, -⟩ := h2
  have g1 : ∀ (i : Nat) (x : Int), B1.nums[i]? = some x → cs1[i]? = some (.int .i64 x) := fun i x hx => by
    rw [hc1]
    have : B1.cells d1 t1 i1 p1 s1 r1 = B1.nums.map (.int .i64) ++ [d1, t1, i1, p1, s1, r1] := rfl
    rw [this, List.getElem?_append_left (by simpa using (List.getElem?_eq_some_iff.1 hx).1), List.getElem?_map, hx]
    rfl
  have g2 : ∀ (i : Nat) (x : Int), B2.nums[i]? = some x → cs2[i]? = some (.int .i64 x) := fun i x hx => by
    rw [hc2]
    have : B2.cells d2 t2 i2 p2 s2 r2 = B2.nums.map (.int .i64) ++ [d2, t2, i2, p2, s2, r2] := rfl
    rw [this, List.getElem?_append_left (by simpa using (List.getElem?_eq_some_iff.1 hx).1), List.getElem?_map, hx]
    rfl
  by_cases e0 : ¬ (B1.id = B2.id)
  · exact refSame_no0 cs1 cs2 B1.id B2.id w (g1 0 _ rfl) (g2 0 _ rfl) e0
  replace e0 := Decidable.not_not.1 e0
  have k0 : cs2[0]? = some (.int .i64 B1.id) := by rw [e0]; exact g2 0 _ rfl
  by_cases e1 : ¬ (B1.pause = B2.pause)
  · exact refSame_no1 cs1 cs2 B1.id B1.pause B2.pause w (g1 0 _ rfl) k0 (g1 1 _ rfl) (g2 1 _ rfl) e1
  replace e1 := Decidable.not_not.1 e1
  have k1 : cs2[1]? = some (.int .i64 B1.pause) := by rw [e1]; exact g2 1 _ rfl
  by_cases e2 : ¬ (B1.pilot = B2.pilot)
  · exact refSame_no2 cs1 cs2 B1.id B1.pause B1.pilot B2.pilot w (g1 0 _ rfl) k0 (g1 1 _ rfl) k1 (g1 2 _ rfl) (g2 2 _ rfl) e2
  replace e2 := Decidable.not_not.1 e2
  have k2 : cs2[2]? = some (.int .i64 B1.pilot) := by rw [e2]; exact g2 2 _ rfl
  by_cases e3 : ¬ (B1.sync1 = B2.sync1)
  · exact refSame_no3 cs1 cs2 B1.id B1.pause B1.pilot B1.sync1 B2.sync1 w (g1 0 _ rfl) k0 (g1 1 _ rfl) k1 (g1 2 _ rfl) k2 (g1 3 _ rfl) (g2 3 _ rfl) e3
  replace e3 := Decidable.not_not.1 e3
  have k3 : cs2[3]? = some (.int .i64 B1.sync1) := by rw [e3]; exact g2 3 _ rfl
  by_cases e4 : ¬ (B1.sync2 = B2.sync2)
  · exact refSame_no4 cs1 cs2 B1.id B1.pause B1.pilot B1.sync1 B1.sync2 B2.sync2 w (g1 0 _ rfl) k0 (g1 1 _ rfl) k1 (g1 2 _ rfl) k2 (g1 3 _ rfl) k3 (g1 4 _ rfl) (g2 4 _ rfl) e4
  replace e4 := Decidable.not_not.1 e4
  have k4 : cs2[4]? = some (.int .i64 B1.sync2) := by rw [e4]; exact g2 4 _ rfl
  by_cases e5 : ¬ (B1.zero = B2.zero)
  · exact refSame_no5 cs1 cs2 B1.id B1.pause B1.pilot B1.sync1 B1.sync2 B1.zero B2.zero w (g1 0 _ rfl) k0 (g1 1 _ rfl) k1 (g1 2 _ rfl) k2 (g1 3 _ rfl) k3 (g1 4 _ rfl) k4 (g1 5 _ rfl) (g2 5 _ rfl) e5
  replace e5 := Decidable.not_not.1 e5
  have k5 : cs2[5]? = some (.int .i64 B1.zero) := by rw [e5]; exact g2 5 _ rfl
  by_cases e6 : ¬ (B1.one = B2.one)
  · exact refSame_no6 cs1 cs2 B1.id B1.pause B1.pilot B1.sync1 B1.sync2 B1.zero B1.one B2.one w (g1 0 _ rfl) k0 (g1 1 _ rfl) k1 (g1 2 _ rfl) k2 (g1 3 _ rfl) k3 (g1 4 _ rfl) k4 (g1 5 _ rfl) k5 (g1 6 _ rfl) (g2 6 _ rfl) e6
  replace e6 := Decidable.not_not.1 e6
  have k6 : cs2[6]? = some (.int .i64 B1.one) := by rw [e6]; exact g2 6 _ rfl
  by_cases e7 : ¬ (B1.tone = B2.tone)
  · exact refSame_no7 cs1 cs2 B1.id B1.pause B1.pilot B1.sync1 B1.sync2 B1.zero B1.one B1.tone B2.tone w (g1 0 _ rfl) k0 (g1 1 _ rfl) k1 (g1 2 _ rfl) k2 (g1 3 _ rfl) k3 (g1 4 _ rfl) k4 (g1 5 _ rfl) k5 (g1 6 _ rfl) k6 (g1 7 _ rfl) (g2 7 _ rfl) e7
  replace e7 := Decidable.not_not.1 e7
  have k7 : cs2[7]? = some (.int .i64 B1.tone) := by rw [e7]; exact g2 7 _ rfl
  by_cases e8 : ¬ (B1.count = B2.count)
  · exact refSame_no8 cs1 cs2 B1.id B1.pause B1.pilot B1.sync1 B1.sync2 B1.zero B1.one B1.tone B1.count B2.count w (g1 0 _ rfl) k0 (g1 1 _ rfl) k1 (g1 2 _ rfl) k2 (g1 3 _ rfl) k3 (g1 4 _ rfl) k4 (g1 5 _ rfl) k5 (g1 6 _ rfl) k6 (g1 7 _ rfl) k7 (g1 8 _ rfl) (g2 8 _ rfl) e8
  replace e8 := Decidable.not_not.1 e8
  have k8 : cs2[8]? = some (.int .i64 B1.count) := by rw [e8]; exact g2 8 _ rfl
  by_cases e9 : ¬ (B1.used = B2.used)
  · exact refSame_no9 cs1 cs2 B1.id B1.pause B1.pilot B1.sync1 B1.sync2 B1.zero B1.one B1.tone B1.count B1.used B2.used w (g1 0 _ rfl) k0 (g1 1 _ rfl) k1 (g1 2 _ rfl) k2 (g1 3 _ rfl) k3 (g1 4 _ rfl) k4 (g1 5 _ rfl) k5 (g1 6 _ rfl) k6 (g1 7 _ rfl) k7 (g1 8 _ rfl) k8 (g1 9 _ rfl) (g2 9 _ rfl) e9
  replace e9 := Decidable.not_not.1 e9
  have k9 : cs2[9]? = some (.int .i64 B1.used) := by rw [e9]; exact g2 9 _ rfl
  by_cases e10 : ¬ (B1.rate = B2.rate)
  · exact refSame_no10 cs1 cs2 B1.id B1.pause B1.pilot B1.sync1 B1.sync2 B1.zero B1.one B1.tone B1.count B1.used B1.rate B2.rate w (g1 0 _ rfl) k0 (g1 1 _ rfl) k1 (g1 2 _ rfl) k2 (g1 3 _ rfl) k3 (g1 4 _ rfl) k4 (g1 5 _ rfl) k5 (g1 6 _ rfl) k6 (g1 7 _ rfl) k7 (g1 8 _ rfl) k8 (g1 9 _ rfl) k9 (g1 10 _ rfl) (g2 10 _ rfl) e10
  replace e10 := Decidable.not_not.1 e10
  have k10 : cs2[10]? = some (.int .i64 B1.rate) := by rw [e10]; exact g2 10 _ rfl
  by_cases e11 : ¬ (B1.pack = B2.pack)
  · exact refSame_no11 cs1 cs2 B1.id B1.pause B1.pilot B1.sync1 B1.sync2 B1.zero B1.one B1.tone B1.count B1.used B1.rate B1.pack B2.pack w (g1 0 _ rfl) k0 (g1 1 _ rfl) k1 (g1 2 _ rfl) k2 (g1 3 _ rfl) k3 (g1 4 _ rfl) k4 (g1 5 _ rfl) k5 (g1 6 _ rfl) k6 (g1 7 _ rfl) k7 (g1 8 _ rfl) k8 (g1 9 _ rfl) k9 (g1 10 _ rfl) k10 (g1 11 _ rfl) (g2 11 _ rfl) e11
  replace e11 := Decidable.not_not.1 e11
  have k11 : cs2[11]? = some (.int .i64 B1.pack) := by rw [e11]; exact g2 11 _ rfl
  exact absurd (by unfold TB.nums; rw [e0, e1, e2, e3, e4, e5, e6, e7, e8, e9, e10, e11]) hN
set_option maxRecDepth 100000 in
set_option maxHeartbeats 8000000 in
theorem sameTape_any (a b c d : Int) (v1 v2 : Value) (l1 l2 : List TB) (w : World) (h1 : BlksV w v1 l1) (h2 : BlksV w v2 l2) :
    Calls Try.prog 16 #[.agg #[.int .i64 a, .int .i64 b, v1], .agg #[.int .i64 c, .int .i64 d, v2]] w (SaysB (tapesEq a b c d l1 l2) w) := by
  obtain ⟨A1, c1, E1, rfl, m1, e1, r1⟩ := h1.elems
  obtain ⟨A2, c2, E2, rfl, m2, e2, r2⟩ := h2.elems
  obtain ⟨T1, hT1⟩ : ∃ T : Array Value, T = #[.int .i64 a, .int .i64 b, .slice A1 l1.length c1] := ⟨_, rfl⟩
  obtain ⟨T2, hT2⟩ : ∃ T : Array Value, T = #[.int .i64 c, .int .i64 d, .slice A2 l2.length c2] := ⟨_, rfl⟩
  obtain ⟨t1, ht1⟩ : ∃ b, b = w.heap.size := ⟨_, rfl⟩
  obtain ⟨wa, hwa⟩ : ∃ wa, wa = w.alloc (.cells T1 33) := ⟨_, rfl⟩
  obtain ⟨t2, ht2⟩ : ∃ b, b = wa.heap.size := ⟨_, rfl⟩
  obtain ⟨wb, hwb⟩ : ∃ wb, wb = wa.alloc (.cells T2 33) := ⟨_, rfl⟩
  have kab : Below w.heap.size w wa := by rw [hwa]; exact (Below.refl _ w).alloc (Nat.le_refl _) _
  have kbc : Below wa.heap.size wa wb := by rw [hwb]; exact (Below.refl _ wa).alloc (Nat.le_refl _) _
  have kwb : Below w.heap.size w wb := kab.trans (kbc.mono kab.size)
  have hA1 : Blk wb t1 33 T1.toList := by
    have : Blk wa t1 33 T1.toList := by rw [hwa, ht1]; simpa using Blk.new w 33 T1.toList
    exact this.below_ kbc
  have hA2 : Blk wb t2 33 T2.toList := by rw [hwb, ht2]; simpa using Blk.new wa 33 T2.toList
  obtain ⟨n1, hn1⟩ : ∃ n, n = l1.length := ⟨_, rfl⟩
  obtain ⟨n2, hn2⟩ : ∃ n, n = l2.length := ⟨_, rfl⟩
  have HK : Hid (∀ u, Below wb.heap.size wb u → u.cell? ⟨t1, 0, none⟩ = some (.int .i64 a) ∧ u.cell? ⟨t1, 1, none⟩ = some (.int .i64 b) ∧ u.cell? ⟨t1, 2, none⟩ = some (.slice A1 n1 c1) ∧ u.cell? ⟨t2, 0, none⟩ = some (.int .i64 c) ∧ u.cell? ⟨t2, 1, none⟩ = some (.int .i64 d) ∧ u.cell? ⟨t2, 2, none⟩ = some (.slice A2 n2 c2)) := Lib.hid (fun u hu => by
    have hu1 := hA1.below_ hu; have hu2 := hA2.below_ hu
    rw [hT1] at hu1; rw [hT2] at hu2
    rw [hn1, hn2]
    exact ⟨hu1.cell 0, hu1.cell 1, hu1.cell 2, hu2.cell 0, hu2.cell 1, hu2.cell 2⟩)
  have HT1 : Hid (wa = w.alloc (.cells #[.int .i64 a, .int .i64 b, .slice A1 n1 c1] 33)) := by show _ = _; rw [hwa, hT1, hn1]
  have HT2 : Hid (wb = wa.alloc (.cells #[.int .i64 c, .int .i64 d, .slice A2 n2 c2] 33)) := by show _ = _; rw [hwb, hT2, hn2]
  have HB1 := Lib.hid ht1; have HB2 := Lib.hid ht2; have HKB := Lib.hid kwb
  have HE1 := Lib.hid e1; have HE2 := Lib.hid e2; have HN1 := Lib.hid hn1; have HN2 := Lib.hid hn2
  have HF : Hid (∀ k, k < n1 → k < n2 → ∀ u, Below w.heap.size w u → Calls Try.prog 23 #[.agg (E1 k).toArray, .agg (E2 k).toArray] u (SaysB (eqAt l1 l2 k) u)) := Lib.hid (fun k hk1 hk2 u hu => by
    rw [hn1] at hk1; rw [hn2] at hk2
    have hx : l1[k]? = some (l1.getD k {}) := by simp [List.getD, List.getElem?_eq_getElem hk1]
    have hy : l2[k]? = some (l2.getD k {}) := by simp [List.getD, List.getElem?_eq_getElem hk2]
    exact refSame_any _ _ _ _ u ((r1 k _ hx).below hu) ((r2 k _ hy).below hu))
  have m0 : maxLen = 9223372036854775807 := rfl
  have hb1 : n1 ≤ 9223372036854775807 := by omega
  unfold tapesEq blksEq
  rw [← hn1, ← hn2]
  rw [← hn1] at m1 HE1; rw [← hn2] at m2 HE2
  clear hT1 hT2 ht1 hwa ht2 hwb kab kbc kwb hA1 hA2 hn1 hn2 e1 e2 r1 r2 m0 m1 m2
  go_enter Try.func16, Try.ntmps16
  go_upto_region 0 with fail
  refine wp_region_list ?_
  refine Great.wpList_boxTo rfl 33 (.tmp 0) rfl (some 2) rfl t1 HB1.out.symm #[.int .i64 a, .int .i64 b, .slice A1 n1 c1] rfl ?_
  rw [← HT1.out]
  refine Great.wpList_boxTo rfl 33 (.tmp 1) rfl (some 3) rfl t2 HB2.out.symm #[.int .i64 c, .int .i64 d, .slice A2 n2 c2] rfl ?_
  rw [← HT2.out]
  obtain ⟨x0, x1, x2, y0, y1, y2⟩ := HK.out wb (Below.refl _ _)
  by_cases hac : ¬ (a = c)
  · rw [decide_eq_false hac]
    have hne : (a == c) = false := by simpa using hac
    go_wp2_with fail
    go_ret
    exact ⟨by simp [hac], HKB.out⟩
  replace hac := Decidable.not_not.1 hac
  subst hac
  by_cases hbd : ¬ (b = d)
  · rw [decide_eq_false hbd]
    have hne : (b == d) = false := by simpa using hbd
    go_wp2_with fail
    go_ret
    exact ⟨by simp [hbd], HKB.out⟩
  replace hbd := Decidable.not_not.1 hbd
  subst hbd
  by_cases hnn : ¬ (n1 = n2)
  · rw [decide_eq_false hnn]
    have hne : ((n1 : Int) == n2) = false := by simp; omega
    have hne2 : ¬ (n1 : Int) = n2 := by omega
    go_wp2_with fail
    go_ret
    exact ⟨by simp [hnn], HKB.out⟩
  replace hnn := Decidable.not_not.1 hnn
  subst hnn
  rw [decide_eq_true rfl, decide_eq_true rfl, decide_eq_true rfl, Bool.true_and, Bool.true_and, Bool.true_and]
  go_wp2_with fail
  clear x0 x1 x2 y0 y1 y2
  go_loopw [5] (fun idx wr => ∃ k : Nat, idx = .int .i64 k ∧ k ≤ n1 ∧ Hid (∀ j, j < k → eqAt l1 l2 j = true) ∧ Hid (Below wb.heap.size wb wr)) (fun idx _ => n1 - (intOf idx).toNat)
  case atStart => exact ⟨0, rfl, Nat.zero_le _, Lib.hid (fun j hj => absurd hj (by omega)), Lib.hid (Below.refl _ _)⟩
  case round =>
    obtain ⟨k, rfl, hk, HE, HB⟩ := hrel
    have HWR : Hid (Below w.heap.size w wr) := Lib.hid (HKB.out.trans (HB.out.mono HKB.out.size))
    obtain ⟨-, -, x2, -, -, y2⟩ := HK.out wr HB.out
    by_cases hlt : k < n1
    · have hlt2 : (k : Int) < n1 := by omega
      obtain ⟨g1, o1, rfl, hr1, hl1, -⟩ := (HE1.out.below HWR.out) k hlt
      obtain ⟨g2, o2, rfl, hr2, hl2, -⟩ := (HE2.out.below HWR.out) k hlt
      have v2 : IntKind.i64.wrap ((k : Int) + 1) = ((k + 1 : Nat) : Int) := by rw [IntKind.wrap_i64]; omega
      have HC : Hid (∀ d os, Calls Try.prog 23 #[.agg (E1 k).toArray, .agg (E2 k).toArray] (grow (redrawn wr d) os) fun e w'' => e = .returned (.bool (eqAt l1 l2 k)) ∧ ∃ z : Regrown, w'' = grow (redrawn wr z.d) z.os) := Lib.hid (saysB_quiet (fun u hu => (HF.out k hlt hlt u (HWR.out.trans (hu.mono HWR.out.size)))))
      have HI1 : Hid ((Try.prog.info? 28).map (·.size) = some (E1 k).length) := by show _ = _; rw [infoBlks, hl1]
      have HI2 : Hid ((Try.prog.info? 28).map (·.size) = some (E2 k).length) := by show _ = _; rw [infoBlks, hl2]
      generalize hbv : eqAt l1 l2 k = bv at HC
      generalize E1 k = e1 at hr1 HC HI1
      generalize E2 k = e2 at hr2 HC HI2
      have HR1 := Lib.hid hr1; have HR2 := Lib.hid hr2; have HBV := Lib.hid hbv
      have q1 := cell_quiet x2; have q2 := cell_quiet y2
      clear hr1 hr2 hl1 hl2 hbv
      go_upto_region 6 with fail
      refine wp_region_quiet_below (by kernel_rfl) (by kernel_rfl) ?_
      repeat (first
        | (refine wpQuiet_step (fun K hK => ?_)
           refine quiet_loadAt (by rfl) 28 (.tmp 37) rfl g1 (o1 + k * 18) rfl e1 _ (range_quiet HR1.out) Try.underlying28 rfl HI1.out (hK _ ?_)
           clear hK K)
        | (refine wpQuiet_step (fun K hK => ?_)
           refine quiet_loadAt (by rfl) 28 (.tmp 42) rfl g2 (o2 + k * 18) rfl e2 _ (range_quiet HR2.out) Try.underlying28 rfl HI2.out (hK _ ?_)
           clear hK K)
        | quiet_step (first | (go_at_call 23; exact HC.out _ _)))
      refine wpQuiet_nil ?_
      intro u hwq
      have HBQ : Hid (Below wb.heap.size wb u) := by obtain ⟨p, rfl⟩ := hwq; exact Lib.hid (HB.out.trans ((below_regrown wr p.d p.os).mono HB.out.size))
      clear hwq q1 q2 x2 y2
      cases bv
      · go_wp2_with fail
        go_ret
        exact SaysB.of (allK_not hlt HBV.out).symm (HKB.out.trans (HBQ.out.mono HKB.out.size))
      · go_wp2_with fail
        go_roundw
        case rel => exact ⟨k + 1, by go_num, by omega, Lib.hid (fun j hj => by
          rcases Nat.lt_or_ge j k with h | h
          · exact HE.out j h
          · rw [show j = k by omega]; exact HBV.out), HBQ⟩
        case measure => simp [intOf]; omega
    · have hlt2 : ¬ (k : Int) < n1 := by omega
      go_wp2_with fail
      go_ret
      exact SaysB.of (allK_of (fun j hj => HE.out j (by omega))).symm (HKB.out.trans (HB.out.mono HKB.out.size))
end Go.Proofs.Ytokidpajialgbaa
