/- squealref19.Same. Written by gen_spk.py. -/
import Derived.Test.YtokidpajialgbaaSpKA
import Derived.Test.YtokidpajialgbaaSpI
namespace Go.Proofs.Ytokidpajialgbaa
set_option linter.unusedSimpArgs false
set_option linter.unusedVariables false
open Go.RowKit Go.Sort
set_option maxRecDepth 100000 in
theorem cmp_repG (x y : Operand) (a b c d : Int) (r : Bool) (hr : (!(a == c && b == d)) = r) (u : World) : (do eqGuard .neq 88 x y (.agg [.int .i64 a, .int .i64 b].toArray) (.agg [.int .i64 c, .int .i64 d].toArray); binOp .neq 88 (.agg [.int .i64 a, .int .i64 b].toArray) (.agg [.int .i64 c, .int .i64 d].toArray) : Sem Value).run Try.prog u = .ok (.bool r) u := by
  subst hr
  by_cases h1 : a = c <;> by_cases h2 : b = d <;> simp [h1, h2, go_sem]
theorem eqB_nums {B1 B2 : TB} (h : B1.nums ≠ B2.nums) : B1.eqB B2 = false := by unfold TB.eqB; rw [decide_eq_false h, Bool.false_and]
set_option maxRecDepth 100000 in
set_option maxHeartbeats 20000000 in
theorem refSame_eq (cs1 cs2 : List Value) (B1 B2 : TB) (w : World) (h1 : TBV w cs1 B1) (h2 : TBV w cs2 B2) (hN : B1.nums = B2.nums) :
    Calls Try.prog 23 #[.agg cs1.toArray, .agg cs2.toArray] w (SaysB (B1.eqB B2) w) := by
  obtain ⟨wf1, d1, t1, i1, p1, s1, r1, hcs1, hd1, ht1, hi1, hp1, hs1, hr1⟩ := h1
  obtain ⟨wf2, d2, t2, i2, p2, s2, r2, hcs2, hd2, ht2, hi2, hp2, hs2, hr2⟩ := h2
  obtain ⟨b, hb⟩ : ∃ b, b = w.heap.size := ⟨_, rfl⟩
  obtain ⟨wa, hwa⟩ : ∃ wa, wa = w.alloc (.cells cs1.toArray 28) := ⟨_, rfl⟩
  obtain ⟨bb, hbb⟩ : ∃ b, b = wa.heap.size := ⟨_, rfl⟩
  obtain ⟨wb, hwb⟩ : ∃ wb, wb = wa.alloc (.cells cs2.toArray 28) := ⟨_, rfl⟩
  have kab : Below w.heap.size w wa := by rw [hwa]; exact (Below.refl _ w).alloc (Nat.le_refl _) _
  have kbc : Below wa.heap.size wa wb := by rw [hwb]; exact (Below.refl _ wa).alloc (Nat.le_refl _) _
  have kwb : Below w.heap.size w wb := kab.trans (kbc.mono kab.size)
  have hA1 : Blk wb b 28 cs1 := by
    have : Blk wa b 28 cs1 := by rw [hwa, hb]; exact Blk.new w _ _
    exact this.below_ kbc
  have hA2 : Blk wb bb 28 cs2 := by rw [hwb, hbb]; exact Blk.new wa _ _
  have HET := Lib.hid (fun u (hu : Below w.heap.size w u) => refInts_any t1 t2 B1.times B2.times u (ht1.below hu) (ht2.below hu))
  have HEP := Lib.hid (fun u (hu : Below w.heap.size w u) => refSyms_any p1 p2 B1.pilots B2.pilots u (hp1.below hu) (hp2.below hu))
  have HES := Lib.hid (fun u (hu : Below w.heap.size w u) => refSyms_any s1 s2 B1.syms B2.syms u (hs1.below hu) (hs2.below hu))
  obtain ⟨A1, c1, hv1, ia1, -, -, wd1⟩ := hd1
  obtain ⟨A2, c2, hv2, ia2, -, -, wd2⟩ := hd2
  have hstr := txt8_eq B1.data B2.data wd1 wd2
  obtain ⟨T1, hT1⟩ : ∃ T, T = txt8 B1.data := ⟨_, rfl⟩
  obtain ⟨T2, hT2⟩ : ∃ T, T = txt8 B2.data := ⟨_, rfl⟩
  have HV1 : Hid (∀ u, Below w.heap.size w u → (convert 22 9 d1).run Try.prog u = .ok (.string T1) u) := Lib.hid (fun u hu => by rw [hv1, hT1]; exact RowV.conv (Cells.below ia1 hu) rfl)
  have HV2 : Hid (∀ u, Below w.heap.size w u → (convert 22 9 d2).run Try.prog u = .ok (.string T2) u) := Lib.hid (fun u hu => by rw [hv2, hT2]; exact RowV.conv (Cells.below ia2 hu) rfl)
  rw [← hT1, ← hT2] at hstr
  obtain ⟨Ar1, cr1, hvr1, hlr1, hmr1, hir1⟩ := hr1
  obtain ⟨Ar2, cr2, hvr2, hlr2, hmr2, hir2⟩ := hr2
  obtain ⟨Ai1, ci1, hvi1, hli1, hmi1, hii1⟩ := hi1
  obtain ⟨Ai2, ci2, hvi2, hli2, hmi2, hii2⟩ := hi2
  subst hvr1 hvr2 hvi1 hvi2
  have hw12 : B2.nums = B1.nums := hN.symm
  unfold TB.nums at hw12
  simp only [List.cons.injEq, and_true] at hw12
  obtain ⟨e0, e1, e2, e3, e4, e5, e6, e7, e8, e9, e10, e11⟩ := hw12
  have HXF : Hid (wb.cell? ⟨b, 0, none⟩ = some (.int .i64 B1.id) ∧ wb.cell? ⟨bb, 0, none⟩ = some (.int .i64 B1.id) ∧ wb.cell? ⟨b, 1, none⟩ = some (.int .i64 B1.pause) ∧ wb.cell? ⟨bb, 1, none⟩ = some (.int .i64 B1.pause) ∧ wb.cell? ⟨b, 2, none⟩ = some (.int .i64 B1.pilot) ∧ wb.cell? ⟨bb, 2, none⟩ = some (.int .i64 B1.pilot) ∧ wb.cell? ⟨b, 3, none⟩ = some (.int .i64 B1.sync1) ∧ wb.cell? ⟨bb, 3, none⟩ = some (.int .i64 B1.sync1) ∧ wb.cell? ⟨b, 4, none⟩ = some (.int .i64 B1.sync2) ∧ wb.cell? ⟨bb, 4, none⟩ = some (.int .i64 B1.sync2) ∧ wb.cell? ⟨b, 5, none⟩ = some (.int .i64 B1.zero) ∧ wb.cell? ⟨bb, 5, none⟩ = some (.int .i64 B1.zero) ∧ wb.cell? ⟨b, 6, none⟩ = some (.int .i64 B1.one) ∧ wb.cell? ⟨bb, 6, none⟩ = some (.int .i64 B1.one) ∧ wb.cell? ⟨b, 7, none⟩ = some (.int .i64 B1.tone) ∧ wb.cell? ⟨bb, 7, none⟩ = some (.int .i64 B1.tone) ∧ wb.cell? ⟨b, 8, none⟩ = some (.int .i64 B1.count) ∧ wb.cell? ⟨bb, 8, none⟩ = some (.int .i64 B1.count) ∧ wb.cell? ⟨b, 9, none⟩ = some (.int .i64 B1.used) ∧ wb.cell? ⟨bb, 9, none⟩ = some (.int .i64 B1.used) ∧ wb.cell? ⟨b, 10, none⟩ = some (.int .i64 B1.rate) ∧ wb.cell? ⟨bb, 10, none⟩ = some (.int .i64 B1.rate) ∧ wb.cell? ⟨b, 11, none⟩ = some (.int .i64 B1.pack) ∧ wb.cell? ⟨bb, 11, none⟩ = some (.int .i64 B1.pack)) := Lib.hid ⟨(hA1.cell 0).trans (by rw [hcs1]; rfl), (hA2.cell 0).trans (by rw [hcs2, ← e0]; rfl), (hA1.cell 1).trans (by rw [hcs1]; rfl), (hA2.cell 1).trans (by rw [hcs2, ← e1]; rfl), (hA1.cell 2).trans (by rw [hcs1]; rfl), (hA2.cell 2).trans (by rw [hcs2, ← e2]; rfl), (hA1.cell 3).trans (by rw [hcs1]; rfl), (hA2.cell 3).trans (by rw [hcs2, ← e3]; rfl), (hA1.cell 4).trans (by rw [hcs1]; rfl), (hA2.cell 4).trans (by rw [hcs2, ← e4]; rfl), (hA1.cell 5).trans (by rw [hcs1]; rfl), (hA2.cell 5).trans (by rw [hcs2, ← e5]; rfl), (hA1.cell 6).trans (by rw [hcs1]; rfl), (hA2.cell 6).trans (by rw [hcs2, ← e6]; rfl), (hA1.cell 7).trans (by rw [hcs1]; rfl), (hA2.cell 7).trans (by rw [hcs2, ← e7]; rfl), (hA1.cell 8).trans (by rw [hcs1]; rfl), (hA2.cell 8).trans (by rw [hcs2, ← e8]; rfl), (hA1.cell 9).trans (by rw [hcs1]; rfl), (hA2.cell 9).trans (by rw [hcs2, ← e9]; rfl), (hA1.cell 10).trans (by rw [hcs1]; rfl), (hA2.cell 10).trans (by rw [hcs2, ← e10]; rfl), (hA1.cell 11).trans (by rw [hcs1]; rfl), (hA2.cell 11).trans (by rw [hcs2, ← e11]; rfl)⟩
  unfold TB.eqB
  rw [decide_eq_true hN, Bool.true_and]
  have HK : Hid (∀ u, Below wb.heap.size wb u → u.cell? ⟨b, 12, none⟩ = some d1 ∧ u.cell? ⟨bb, 12, none⟩ = some d2 ∧ u.cell? ⟨b, 13, none⟩ = some t1 ∧ u.cell? ⟨bb, 13, none⟩ = some t2 ∧ u.cell? ⟨b, 14, none⟩ = some (.slice Ai1 B1.items.length ci1) ∧ u.cell? ⟨bb, 14, none⟩ = some (.slice Ai2 B2.items.length ci2) ∧ u.cell? ⟨b, 15, none⟩ = some p1 ∧ u.cell? ⟨bb, 15, none⟩ = some p2 ∧ u.cell? ⟨b, 16, none⟩ = some s1 ∧ u.cell? ⟨bb, 16, none⟩ = some s2 ∧ u.cell? ⟨b, 17, none⟩ = some (.slice Ar1 B1.reps.length cr1) ∧ u.cell? ⟨bb, 17, none⟩ = some (.slice Ar2 B2.reps.length cr2)) := Lib.hid (fun u hu => by
    have hu1 := hA1.below_ hu; have hu2 := hA2.below_ hu
    exact ⟨(hu1.cell 12).trans (by rw [hcs1]; rfl), (hu2.cell 12).trans (by rw [hcs2]; rfl), (hu1.cell 13).trans (by rw [hcs1]; rfl), (hu2.cell 13).trans (by rw [hcs2]; rfl), (hu1.cell 14).trans (by rw [hcs1]; rfl), (hu2.cell 14).trans (by rw [hcs2]; rfl), (hu1.cell 15).trans (by rw [hcs1]; rfl), (hu2.cell 15).trans (by rw [hcs2]; rfl), (hu1.cell 16).trans (by rw [hcs1]; rfl), (hu2.cell 16).trans (by rw [hcs2]; rfl), (hu1.cell 17).trans (by rw [hcs1]; rfl), (hu2.cell 17).trans (by rw [hcs2]; rfl)⟩)
  have HB := Lib.hid hb; have HBB := Lib.hid hbb; have HWA := Lib.hid hwa; have HWB := Lib.hid hwb
  have HKB := Lib.hid kwb
  have m0 : maxLen = 9223372036854775807 := rfl
  obtain ⟨nr, hnr⟩ : ∃ n, n = B1.reps.length := ⟨_, rfl⟩
  obtain ⟨mr, hmr⟩ : ∃ n, n = B2.reps.length := ⟨_, rfl⟩
  obtain ⟨ni, hni⟩ : ∃ n, n = B1.items.length := ⟨_, rfl⟩
  obtain ⟨mi, hmi⟩ : ∃ n, n = B2.items.length := ⟨_, rfl⟩
  rw [← hnr, ← hmr, ← hni, ← hmi] at HK
  have hbr : nr ≤ 9223372036854775807 := by omega
  have hbi : ni ≤ 9223372036854775807 := by omega
  have HIR1 := Lib.hid hir1; have HIR2 := Lib.hid hir2; have HII1 := Lib.hid hii1; have HII2 := Lib.hid hii2
  have HNR := Lib.hid hnr; have HMR := Lib.hid hmr; have HNI := Lib.hid hni; have HMI := Lib.hid hmi
  obtain ⟨rR, hrR⟩ : ∃ r, r = decide (B1.reps = B2.reps) := ⟨_, rfl⟩
  obtain ⟨rI, hrI⟩ : ∃ r, r = decide (B1.items = B2.items) := ⟨_, rfl⟩
  rw [← hrR, ← hrI]
  have HRR := Lib.hid hrR; have HRI := Lib.hid hrI
  generalize decide (B1.data = B2.data) = rD at hstr ⊢
  generalize decide (B1.times = B2.times) = rT at HET ⊢
  generalize decide (B1.pilots = B2.pilots) = rP at HEP ⊢
  generalize decide (B1.syms = B2.syms) = rS at HES ⊢
  have hlen : (nr ≠ mr) ∨ (nr = mr ∧ ni ≠ mi) ∨ (nr = mr ∧ ni = mi) := by omega
  clear wf1 wf2 hN hcs1 hcs2 ht1 hp1 hs1 ht2 hp2 hs2 hb hwa hbb hwb kab kbc kwb hA1 hA2 hv1 hv2 ia1 ia2 wd1 wd2 hT1 hT2 hlr1 hmr1 hir1 hlr2 hmr2 hir2 hli1 hmi1 hii1 hli2 hmi2 hii2 e0 e1 e2 e3 e4 e5 e6 e7 e8 e9 e10 e11 hnr hmr hni hmi hrR hrI m0
  obtain ⟨x0, q0, x1, q1, x2, q2, x3, q3, x4, q4, x5, q5, x6, q6, x7, q7, x8, q8, x9, q9, x10, q10, x11, q11⟩ := HXF.out
  go_enter Try.func23, Try.ntmps23
  go_upto_region 0 with fail
  refine wp_region_list ?_
  refine Great.wpList_boxTo rfl 28 (.tmp 0) rfl (some 2) rfl b HB.out.symm cs1.toArray rfl ?_
  rw [← HWA.out]
  refine Great.wpList_boxTo rfl 28 (.tmp 1) rfl (some 3) rfl bb HBB.out.symm cs2.toArray rfl ?_
  rw [← HWB.out]
  go_upto_region 1 with fail
  simp only [List.append_eq, List.cons_append, List.nil_append]
  go_upto_region 3 with fail
  clear x0 q0 x1 q1 x2 q2 x3 q3 x4 q4 x5 q5 x6 q6 x7 q7 x8 q8 x9 q9 x10 q10 x11 q11
  obtain ⟨z12, y12, z13, y13, z14, y14, z15, y15, z16, y16, z17, y17⟩ := HK.out wb (Below.refl _ _)
  have hcv1 := HV1.out wb HKB.out
  have hcv2 := HV2.out wb HKB.out
  have hbe0 : Below wb.heap.size wb wb := Below.refl _ _
  have HBE := Lib.hid hbe0
  clear hbe0
  rcases hlen with hlr | ⟨hlr, hli⟩ | ⟨hlr, hli⟩
  · have hRF : rR = false := by rw [HRR.out]; exact decide_eq_false (fun e => hlr (by rw [HNR.out, HMR.out, e]))
    have hne : ((nr : Int) == mr) = false := by simp; omega
    subst hRF
    clear hlr HRR
    cases rD
    · go_wp2_with (first
      | (go_at_call 49; refine (HET.out _ (HKB.out.trans (HBE.out.mono HKB.out.size))).mono ?_; rintro e wq ⟨rfl, hbq⟩; have HBE := Lib.hid (HBE.out.trans (hbq.mono HBE.out.size)); clear hbq z12 y12 z13 y13 z14 y14 z15 y15 z16 y16 z17 y17; obtain ⟨z12, y12, z13, y13, z14, y14, z15, y15, z16, y16, z17, y17⟩ := HK.out _ HBE.out; cases rT)
      | (go_at_call_of 50 p1; refine (HEP.out _ (HKB.out.trans (HBE.out.mono HKB.out.size))).mono ?_; rintro e wq ⟨rfl, hbq⟩; have HBE := Lib.hid (HBE.out.trans (hbq.mono HBE.out.size)); clear hbq z12 y12 z13 y13 z14 y14 z15 y15 z16 y16 z17 y17; obtain ⟨z12, y12, z13, y13, z14, y14, z15, y15, z16, y16, z17, y17⟩ := HK.out _ HBE.out; cases rP)
      | (go_at_call_of 50 s1; refine (HES.out _ (HKB.out.trans (HBE.out.mono HKB.out.size))).mono ?_; rintro e wq ⟨rfl, hbq⟩; have HBE := Lib.hid (HBE.out.trans (hbq.mono HBE.out.size)); clear hbq z12 y12 z13 y13 z14 y14 z15 y15 z16 y16 z17 y17; obtain ⟨z12, y12, z13, y13, z14, y14, z15, y15, z16, y16, z17, y17⟩ := HK.out _ HBE.out; cases rS))
      all_goals
        go_ret
        exact SaysB.of (by simp) (HKB.out.trans (HBE.out.mono HKB.out.size))
    · go_wp2_with (first
      | (go_at_call 49; refine (HET.out _ (HKB.out.trans (HBE.out.mono HKB.out.size))).mono ?_; rintro e wq ⟨rfl, hbq⟩; have HBE := Lib.hid (HBE.out.trans (hbq.mono HBE.out.size)); clear hbq z12 y12 z13 y13 z14 y14 z15 y15 z16 y16 z17 y17; obtain ⟨z12, y12, z13, y13, z14, y14, z15, y15, z16, y16, z17, y17⟩ := HK.out _ HBE.out; cases rT)
      | (go_at_call_of 50 p1; refine (HEP.out _ (HKB.out.trans (HBE.out.mono HKB.out.size))).mono ?_; rintro e wq ⟨rfl, hbq⟩; have HBE := Lib.hid (HBE.out.trans (hbq.mono HBE.out.size)); clear hbq z12 y12 z13 y13 z14 y14 z15 y15 z16 y16 z17 y17; obtain ⟨z12, y12, z13, y13, z14, y14, z15, y15, z16, y16, z17, y17⟩ := HK.out _ HBE.out; cases rP)
      | (go_at_call_of 50 s1; refine (HES.out _ (HKB.out.trans (HBE.out.mono HKB.out.size))).mono ?_; rintro e wq ⟨rfl, hbq⟩; have HBE := Lib.hid (HBE.out.trans (hbq.mono HBE.out.size)); clear hbq z12 y12 z13 y13 z14 y14 z15 y15 z16 y16 z17 y17; obtain ⟨z12, y12, z13, y13, z14, y14, z15, y15, z16, y16, z17, y17⟩ := HK.out _ HBE.out; cases rS))
      all_goals
        go_ret
        exact SaysB.of (by simp) (HKB.out.trans (HBE.out.mono HKB.out.size))
  · have hIF : rI = false := by rw [HRI.out]; exact decide_eq_false (fun e => hli (by rw [HNI.out, HMI.out, e]))
    have hne : ((ni : Int) == mi) = false := by simp; omega
    subst hIF hlr
    clear hli HRI
    cases rD
    · go_wp2_with (first
      | (go_at_call 49; refine (HET.out _ (HKB.out.trans (HBE.out.mono HKB.out.size))).mono ?_; rintro e wq ⟨rfl, hbq⟩; have HBE := Lib.hid (HBE.out.trans (hbq.mono HBE.out.size)); clear hbq z12 y12 z13 y13 z14 y14 z15 y15 z16 y16 z17 y17; obtain ⟨z12, y12, z13, y13, z14, y14, z15, y15, z16, y16, z17, y17⟩ := HK.out _ HBE.out; cases rT)
      | (go_at_call_of 50 p1; refine (HEP.out _ (HKB.out.trans (HBE.out.mono HKB.out.size))).mono ?_; rintro e wq ⟨rfl, hbq⟩; have HBE := Lib.hid (HBE.out.trans (hbq.mono HBE.out.size)); clear hbq z12 y12 z13 y13 z14 y14 z15 y15 z16 y16 z17 y17; obtain ⟨z12, y12, z13, y13, z14, y14, z15, y15, z16, y16, z17, y17⟩ := HK.out _ HBE.out; cases rP)
      | (go_at_call_of 50 s1; refine (HES.out _ (HKB.out.trans (HBE.out.mono HKB.out.size))).mono ?_; rintro e wq ⟨rfl, hbq⟩; have HBE := Lib.hid (HBE.out.trans (hbq.mono HBE.out.size)); clear hbq z12 y12 z13 y13 z14 y14 z15 y15 z16 y16 z17 y17; obtain ⟨z12, y12, z13, y13, z14, y14, z15, y15, z16, y16, z17, y17⟩ := HK.out _ HBE.out; cases rS))
      all_goals
        go_ret
        exact SaysB.of (by simp) (HKB.out.trans (HBE.out.mono HKB.out.size))
    · go_wp2_with (first
      | (go_at_call 49; refine (HET.out _ (HKB.out.trans (HBE.out.mono HKB.out.size))).mono ?_; rintro e wq ⟨rfl, hbq⟩; have HBE := Lib.hid (HBE.out.trans (hbq.mono HBE.out.size)); clear hbq z12 y12 z13 y13 z14 y14 z15 y15 z16 y16 z17 y17; obtain ⟨z12, y12, z13, y13, z14, y14, z15, y15, z16, y16, z17, y17⟩ := HK.out _ HBE.out; cases rT)
      | (go_at_call_of 50 p1; refine (HEP.out _ (HKB.out.trans (HBE.out.mono HKB.out.size))).mono ?_; rintro e wq ⟨rfl, hbq⟩; have HBE := Lib.hid (HBE.out.trans (hbq.mono HBE.out.size)); clear hbq z12 y12 z13 y13 z14 y14 z15 y15 z16 y16 z17 y17; obtain ⟨z12, y12, z13, y13, z14, y14, z15, y15, z16, y16, z17, y17⟩ := HK.out _ HBE.out; cases rP)
      | (go_at_call_of 50 s1; refine (HES.out _ (HKB.out.trans (HBE.out.mono HKB.out.size))).mono ?_; rintro e wq ⟨rfl, hbq⟩; have HBE := Lib.hid (HBE.out.trans (hbq.mono HBE.out.size)); clear hbq z12 y12 z13 y13 z14 y14 z15 y15 z16 y16 z17 y17; obtain ⟨z12, y12, z13, y13, z14, y14, z15, y15, z16, y16, z17, y17⟩ := HK.out _ HBE.out; cases rS))
      all_goals
        go_ret
        exact SaysB.of (by simp) (HKB.out.trans (HBE.out.mono HKB.out.size))
  · subst hlr hli
    cases rD
    · go_wp2_with fail
      go_ret
      exact SaysB.of (by simp) (HKB.out.trans (HBE.out.mono HKB.out.size))
    · go_wp2_with (first
      | (go_at_call 49; refine (HET.out _ (HKB.out.trans (HBE.out.mono HKB.out.size))).mono ?_; rintro e wq ⟨rfl, hbq⟩; have HBE := Lib.hid (HBE.out.trans (hbq.mono HBE.out.size)); clear hbq z12 y12 z13 y13 z14 y14 z15 y15 z16 y16 z17 y17; obtain ⟨z12, y12, z13, y13, z14, y14, z15, y15, z16, y16, z17, y17⟩ := HK.out _ HBE.out; cases rT)
      | (go_at_call_of 50 p1; refine (HEP.out _ (HKB.out.trans (HBE.out.mono HKB.out.size))).mono ?_; rintro e wq ⟨rfl, hbq⟩; have HBE := Lib.hid (HBE.out.trans (hbq.mono HBE.out.size)); clear hbq z12 y12 z13 y13 z14 y14 z15 y15 z16 y16 z17 y17; obtain ⟨z12, y12, z13, y13, z14, y14, z15, y15, z16, y16, z17, y17⟩ := HK.out _ HBE.out; cases rP)
      | (go_at_call_of 50 s1; refine (HES.out _ (HKB.out.trans (HBE.out.mono HKB.out.size))).mono ?_; rintro e wq ⟨rfl, hbq⟩; have HBE := Lib.hid (HBE.out.trans (hbq.mono HBE.out.size)); clear hbq z12 y12 z13 y13 z14 y14 z15 y15 z16 y16 z17 y17; obtain ⟨z12, y12, z13, y13, z14, y14, z15, y15, z16, y16, z17, y17⟩ := HK.out _ HBE.out; cases rS))
      · go_ret
        exact SaysB.of (by simp) (HKB.out.trans (HBE.out.mono HKB.out.size))
      · go_ret
        exact SaysB.of (by simp) (HKB.out.trans (HBE.out.mono HKB.out.size))
      · go_ret
        exact SaysB.of (by simp) (HKB.out.trans (HBE.out.mono HKB.out.size))
      · clear z12 y12 z13 y13 z14 y14 z15 y15 z16 y16 z17 y17 hcv1 hcv2 hstr
        obtain ⟨w9, hw9⟩ : ∃ u : World, u = wq := ⟨_, rfl⟩
        rw [← hw9] at HBE ⊢
        clear hw9
        go_loopw [5] (fun idx wr => ∃ k : Nat, idx = .int .i64 k ∧ k ≤ nr ∧ Hid (∀ j, j < k → B1.reps[j]? = B2.reps[j]?) ∧ Hid (Below wb.heap.size wb wr)) (fun idx _ => nr - (intOf idx).toNat)
        case atStart => exact ⟨0, rfl, Nat.zero_le _, Lib.hid (fun j hj => absurd hj (by omega)), HBE⟩
        case round =>
          obtain ⟨k, rfl, hk, HE, HBR⟩ := hrel
          have HWR : Hid (Below w.heap.size w wr) := Lib.hid (HKB.out.trans (HBR.out.mono HKB.out.size))
          obtain ⟨z12, y12, z13, y13, z14, y14, z15, y15, z16, y16, z17, y17⟩ := HK.out _ HBR.out
          clear z12 y12 z13 y13 z15 y15 z16 y16 z14 y14
          have q1 := cell_quiet z17; have q2 := cell_quiet y17
          by_cases hlt : k < nr
          · have hlt2 : (k : Int) < nr := by omega
            obtain ⟨⟨x1, x2⟩, hx⟩ : ∃ x, B1.reps[k]? = some x := ⟨_, List.getElem?_eq_getElem (by rw [← HNR.out]; exact hlt)⟩
            obtain ⟨⟨y1, y2⟩, hy⟩ : ∃ x, B2.reps[k]? = some x := ⟨_, List.getElem?_eq_getElem (by rw [← HMR.out]; exact hlt)⟩
            obtain ⟨_, _, g1, o1, rfl, hr1⟩ := HIR1.out k _ hx
            obtain ⟨_, _, g2, o2, rfl, hr2⟩ := HIR2.out k _ hy
            have HR1 : Hid (wr.rangeAt g1 (o1 + k * 2) [.int .i64 x1, .int .i64 x2]) := Lib.hid (rangeBelow hr1 HWR.out)
            have HR2 : Hid (wr.rangeAt g2 (o2 + k * 2) [.int .i64 y1, .int .i64 y2]) := Lib.hid (rangeBelow hr2 HWR.out)
            have v2 : IntKind.i64.wrap ((k : Int) + 1) = ((k + 1 : Nat) : Int) := by rw [IntKind.wrap_i64]; omega
            have HX := Lib.hid hx; have HY := Lib.hid hy
            obtain ⟨eq, heq⟩ : ∃ e, e = (!(x1 == y1 && x2 == y2)) := ⟨_, rfl⟩
            have HEQ := Lib.hid heq
            have HE2 := Lib.hid (cmp_repG (.tmp 149) (.tmp 154) x1 x2 y1 y2 eq heq.symm)
            clear hr1 hr2 hx hy heq
            go_upto_region 8 with fail
            refine wp_region_quiet_below (by kernel_rfl) (by kernel_rfl) ?_
            repeat (first
              | (refine wpQuiet_step (fun K hK => ?_)
                 refine quiet_loadAt (by rfl) 88 (.tmp 148) rfl g1 (o1 + k * 2) rfl [.int .i64 x1, .int .i64 x2] _ (range_quiet HR1.out) Try.underlying88 rfl infoRepS (hK _ ?_)
                 clear hK K)
              | (refine wpQuiet_step (fun K hK => ?_)
                 refine quiet_loadAt (by rfl) 88 (.tmp 153) rfl g2 (o2 + k * 2) rfl _ _ (range_quiet HR2.out) Try.underlying88 rfl infoRepS (hK _ ?_)
                 clear hK K)
              | (refine wpQuiet_step (fun K hK => ?_)
                 refine quiet_bin (by rfl) .neq 88 (.tmp 149) (.tmp 154) 88 rfl _ _ _ rfl rfl HE2.out (hK _ ?_)
                 clear hK K)
              | quiet_step (fail))
            refine wpQuiet_nil ?_
            intro u hwq
            have HBQ : Hid (Below wb.heap.size wb u) := by obtain ⟨p, rfl⟩ := hwq; exact Lib.hid (HBR.out.trans ((below_regrown wr p.d p.os).mono HBR.out.size))
            clear hwq q1 q2 z17 y17
            cases eq
            · go_wp2_with fail
              go_roundw
              case rel =>
                have h3 := HEQ.out
                have h4 : x1 = y1 ∧ x2 = y2 := by simp at h3; exact h3
                exact ⟨k + 1, by go_num, by omega, Lib.hid (fun j hj => by
                  rcases Nat.lt_or_ge j k with h | h
                  · exact HE.out j h
                  · rw [show j = k by omega, HX.out, HY.out, h4.1, h4.2]), HBQ⟩
              case measure => simp [intOf]; omega
            · go_wp2_with fail
              go_ret
              have h3 := HEQ.out
              have h4 : ¬ (x1 = y1 ∧ x2 = y2) := by
                simp at h3
                intro h
                rcases h3 with h3 | h3
                · exact h3 h.1
                · exact h3 h.2
              have hRF : rR = false := by
                rw [HRR.out]
                refine decide_eq_false fun e => h4 ?_
                have h5 := HX.out
                rw [e, HY.out] at h5
                have h5 := Option.some.inj h5
                injection h5 with h5 h6
                exact ⟨h5.symm, h6.symm⟩
              exact SaysB.of (by first | rfl | simp [hRF]) (HKB.out.trans (HBQ.out.mono HKB.out.size))
          · have hlt2 : ¬ (k : Int) < nr := by omega
            have hRT : rR = true := by
              rw [HRR.out]
              exact decide_eq_true (lists_eq (by rw [← HNR.out, ← HMR.out]) (fun j hj => HE.out j (by rw [← HNR.out] at hj; omega)))
            subst hRT
            obtain ⟨w8, hw8⟩ : ∃ u : World, u = wr := ⟨_, rfl⟩
            rw [← hw8] at HBR z17 y17 ⊢
            clear hw8 q1 q2 HWR HRR
            go_wp2_with fail
            clear z17 y17
            go_loopw [6] (fun idx wr => ∃ k : Nat, idx = .int .i64 k ∧ k ≤ ni ∧ Hid (∀ j, j < k → B1.items[j]? = B2.items[j]?) ∧ Hid (Below wb.heap.size wb wr)) (fun idx _ => ni - (intOf idx).toNat)
            case atStart => exact ⟨0, rfl, Nat.zero_le _, Lib.hid (fun j hj => absurd hj (by omega)), HBR⟩
            case round =>
              obtain ⟨i, rfl, hi, HF, HBI⟩ := hrel
              have HWR : Hid (Below w.heap.size w wr) := Lib.hid (HKB.out.trans (HBI.out.mono HKB.out.size))
              obtain ⟨z12, y12, z13, y13, z14, y14, z15, y15, z16, y16, z17, y17⟩ := HK.out _ HBI.out
              clear z12 y12 z13 y13 z15 y15 z16 y16 z17 y17
              by_cases hit : i < ni
              · have hit2 : (i : Int) < ni := by omega
                obtain ⟨⟨x, p⟩, hx⟩ : ∃ x, B1.items[i]? = some x := ⟨_, List.getElem?_eq_getElem (by rw [← HNI.out]; exact hit)⟩
                obtain ⟨⟨y, q⟩, hy⟩ : ∃ x, B2.items[i]? = some x := ⟨_, List.getElem?_eq_getElem (by rw [← HMI.out]; exact hit)⟩
                obtain ⟨_, g1, o1, rv1, rfl, hr1, hp⟩ := HII1.out i _ hx
                obtain ⟨_, g2, o2, rv2, rfl, hr2, hq⟩ := HII2.out i _ hy
                obtain ⟨ca, cb⟩ := cells2 (rangeBelow hr1 HWR.out)
                obtain ⟨cc, cd⟩ := cells2 (rangeBelow hr2 HWR.out)
                have qa := cell_quiet ca; have qb := cell_quiet cb; have qc := cell_quiet cc; have qd := cell_quiet cd
                have q1 := cell_quiet z14; have q2 := cell_quiet y14
                obtain ⟨Ap, cp, rfl, ip, -, -, wp⟩ := hp
                obtain ⟨Aq, cq, rfl, iq, -, -, wq'⟩ := hq
                have hcmp := txt8_eq p q wp wq'
                have hkp : ∀ d os, (convert 22 9 (.slice Ap p.length cp)).run Try.prog (grow (redrawn wr d) os) = .ok (.string (txt8 p)) (grow (redrawn wr d) os) := fun d os => RowV.conv (Cells.below ip (HWR.out.trans ((below_regrown wr d os).mono HWR.out.size))) rfl
                have hkq : ∀ d os, (convert 22 9 (.slice Aq q.length cq)).run Try.prog (grow (redrawn wr d) os) = .ok (.string (txt8 q)) (grow (redrawn wr d) os) := fun d os => RowV.conv (Cells.below iq (HWR.out.trans ((below_regrown wr d os).mono HWR.out.size))) rfl
                have HX := Lib.hid hx; have HY := Lib.hid hy
                have v2 : IntKind.i64.wrap ((i : Int) + 1) = ((i + 1 : Nat) : Int) := by rw [IntKind.wrap_i64]; omega
                obtain ⟨T1, hT1⟩ : ∃ T, T = txt8 p := ⟨_, rfl⟩
                obtain ⟨T2, hT2⟩ : ∃ T, T = txt8 q := ⟨_, rfl⟩
                obtain ⟨np, hnp⟩ : ∃ T, T = p.length := ⟨_, rfl⟩
                obtain ⟨nq, hnq⟩ : ∃ T, T = q.length := ⟨_, rfl⟩
                rw [← hT1] at hkp hcmp; rw [← hT2] at hkq hcmp
                rw [← hnp] at hkp qb; rw [← hnq] at hkq qd
                clear hx hy hr1 hr2 ip iq wp wq' ca cb cc cd hT1 hT2 hnp hnq
                go_upto_region 13 with fail
                clear z14 y14
                by_cases hxy : x = y
                · subst hxy
                  cases hpq : decide (p = q)
                  all_goals
                    rw [hpq] at hcmp
                    refine wp_region_quiet_below (by kernel_rfl) (by kernel_rfl) ?_
                    repeat (quiet_step (fail))
                    refine wpQuiet_nil ?_
                    intro u hwq
                    have HBQ : Hid (Below wb.heap.size wb u) := by obtain ⟨z, rfl⟩ := hwq; exact Lib.hid (HBI.out.trans ((below_regrown wr z.d z.os).mono HBI.out.size))
                    have HPQ := Lib.hid hpq
                    clear hwq qa qb qc qd q1 q2 hkp hkq hcmp hpq
                    go_wp2_with fail
                  · go_ret
                    have hIF : rI = false := by
                      rw [HRI.out]
                      refine decide_eq_false fun e => ?_
                      have h5 := HX.out
                      rw [e, HY.out] at h5
                      have h5 := Option.some.inj h5
                      injection h5 with _ h6
                      exact of_decide_eq_false HPQ.out h6.symm
                    exact SaysB.of (by first | rfl | simp [hIF]) (HKB.out.trans (HBQ.out.mono HKB.out.size))
                  · go_roundw
                    case rel => exact ⟨i + 1, by go_num, by omega, Lib.hid (fun j hj => by
                      rcases Nat.lt_or_ge j i with h | h
                      · exact HF.out j h
                      · rw [show j = i by omega, HX.out, HY.out, of_decide_eq_true HPQ.out]), HBQ⟩
                    case measure => simp [intOf]; omega
                · have hne : (x == y) = false := by simpa using hxy
                  clear hkp hkq hcmp
                  refine wp_region_quiet_below (by kernel_rfl) (by kernel_rfl) ?_
                  repeat (quiet_step (fail))
                  refine wpQuiet_nil ?_
                  intro u hwq
                  have HBQ : Hid (Below wb.heap.size wb u) := by obtain ⟨z, rfl⟩ := hwq; exact Lib.hid (HBI.out.trans ((below_regrown wr z.d z.os).mono HBI.out.size))
                  clear hwq qa qb qc qd q1 q2
                  go_wp2_with fail
                  go_ret
                  have hIF : rI = false := by
                    rw [HRI.out]
                    refine decide_eq_false fun e => ?_
                    have h5 := HX.out
                    rw [e, HY.out] at h5
                    have h5 := Option.some.inj h5
                    injection h5 with h5 _
                    exact hxy h5.symm
                  exact SaysB.of (by first | rfl | simp [hIF]) (HKB.out.trans (HBQ.out.mono HKB.out.size))
              · have hit2 : ¬ (i : Int) < ni := by omega
                have hIT : rI = true := by
                  rw [HRI.out]
                  exact decide_eq_true (lists_eq (by rw [← HNI.out, ← HMI.out]) (fun j hj => HF.out j (by rw [← HNI.out] at hj; omega)))
                go_wp2_with fail
                go_ret
                exact SaysB.of (by first | rfl | simp [hIT]) (HKB.out.trans (HBI.out.mono HKB.out.size))
end Go.Proofs.Ytokidpajialgbaa
