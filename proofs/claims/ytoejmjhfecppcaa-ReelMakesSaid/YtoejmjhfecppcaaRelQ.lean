/- Reel in general: squealref26.long. (printed by wip/gen/gen_relq.py) -/
import Derived.Test.YtoejmjhfecppcaaRelP
namespace Go.Proofs.Ytoejmjhfecppcaa
set_option linter.unusedSimpArgs false
set_option linter.unusedVariables false
open Go.RowKit Go.Sort
theorem LgS.start0 (W : World) : LgS W ((W.alloc (.cells zeroBlk.toArray 87)).alloc (.cells (lgCells 2 (.slice none 0 0) (.slice none 0 0)).toArray 87)) (W.heap.size + 1) 2 (.slice none 0 0) (.slice none 0 0) [] [] :=
  ⟨blk_alloc2_old W _ _ _, blk_alloc2_new W _ _ _, by omega, ⟨[], World.ownsRow_nil _ _ _ _, rfl⟩, World.ownsRow_nil _ _ _ _, ((Below.refl _ W).alloc (Nat.le_refl _) _).alloc (by simp) _⟩
theorem LgS.layP {W u : World} {gb : Nat} {s : Int} {vr : Value} {R : List (Int × Int)} (h : LgS W u gb s (.slice none 0 0) vr [] R) :
    LgP W (((u.alloc (.cells #[.int .i64 65535] 3)).alloc (.cells #[.int .i64 65535] 3)).alloc (.cells #[.int .i64 0, .slice (some ⟨u.heap.size, 0, none⟩) 1 1, .int .i64 1, .slice (some ⟨u.heap.size + 1, 0, none⟩) 1 1] 113)) gb s (.slice none 0 0) vr (.slice (some ⟨u.heap.size + 1 + 1, 0, none⟩) 2 2) [(0, [65535]), (1, [65535])] R := by
  have hs := h.size
  obtain ⟨a, ha⟩ : ∃ a, a = u.alloc (.cells #[.int .i64 65535] 3) := ⟨_, rfl⟩
  have sa : a.heap.size = u.heap.size + 1 := by rw [ha]; simp
  have fa : Blk a u.heap.size 3 [.int .i64 65535] := by rw [ha]; exact Blk.new u _ _
  have xa : Below u.heap.size u a := by rw [ha]; exact below_alloc1 _ _
  rw [← ha]
  obtain ⟨b, hb⟩ : ∃ b, b = a.alloc (.cells #[.int .i64 65535] 3) := ⟨_, rfl⟩
  have sb : b.heap.size = u.heap.size + 1 + 1 := by rw [hb]; simp [sa]
  have fb : Blk b (u.heap.size + 1) 3 [.int .i64 65535] := by rw [hb, ← sa]; exact Blk.new a _ _
  have xb : Below a.heap.size a b := by rw [hb]; exact below_alloc1 _ _
  rw [← hb]
  obtain ⟨c, hc⟩ : ∃ c, c = b.alloc (.cells #[.int .i64 0, .slice (some ⟨u.heap.size, 0, none⟩) 1 1, .int .i64 1, .slice (some ⟨u.heap.size + 1, 0, none⟩) 1 1] 113) := ⟨_, rfl⟩
  have fc : Blk c (u.heap.size + 1 + 1) 113 [.int .i64 0, .slice (some ⟨u.heap.size, 0, none⟩) 1 1, .int .i64 1, .slice (some ⟨u.heap.size + 1, 0, none⟩) 1 1] := by rw [hc, ← sb]; exact Blk.new b _ _
  have xc : Below b.heap.size b c := by rw [hc]; exact below_alloc1 _ _
  rw [← hc]
  have ya : Below a.heap.size a c := xb.trans (xc.mono (by omega))
  have yu : Below u.heap.size u c := xa.trans (ya.mono (by omega))
  have h2 := h.below_ yu
  exact ⟨h2.res, h2.blk, h2.gbLe, ⟨[.int .i64 0, .slice (some ⟨u.heap.size, 0, none⟩) 1 1, .int .i64 1, .slice (some ⟨u.heap.size + 1, 0, none⟩) 1 1], ⟨rfl, .inr ⟨_, 2, _, rfl, by omega, fc, by decide, by decide, rfl, rfl⟩⟩, ⟨_, _, _, rfl, ⟨_, _, rfl, rfl, rfl, fa.below_ ya⟩, ⟨_, _, _, rfl, ⟨_, _, rfl, rfl, rfl, fb.below_ xc⟩, rfl⟩⟩⟩, h2.rrow, h2.below⟩
theorem LgS.layR {W u : World} {gb : Nat} {s : Int} {vp : Value} {P : List (Int × List Int)} (h : LgS W u gb s vp (.slice none 0 0) P []) :
    LgR W (u.alloc (.cells #[.int .i64 0, .int .i64 1] 115)) gb s vp (.slice none 0 0) (.slice (some ⟨u.heap.size, 0, none⟩) 1 1) P [(0, 1)] := by
  have hs := h.size
  have h2 := h.below_ (below_alloc1 u (.cells #[.int .i64 0, .int .i64 1] 115))
  exact ⟨h2.res, h2.blk, h2.gbLe, h2.prow, ⟨rfl, .inr ⟨_, 1, _, rfl, by omega, heap_alloc_new u _, by decide, by decide, rfl, rfl⟩⟩, h2.below⟩
set_option maxRecDepth 100000 in
set_option maxHeartbeats 16000000 in
theorem reflong_any (n : Int) (h0 : 65536 ≤ n) (h1 : n ≤ 4294967295) (w : World) : Calls Try.prog 41 #[.int .i64 n] w (LongR n w) := by
  have HS0 := Lib.hid (LgS.start0 w)
  obtain ⟨q, hq⟩ : ∃ q, n / 65535 = q := ⟨_, rfl⟩
  obtain ⟨r, hr⟩ : ∃ r, n % 65535 = r := ⟨_, rfl⟩
  have q0 : 1 ≤ q := by omega
  have q1 : q ≤ 65537 := by omega
  have r0 : 0 ≤ r := by omega
  have r1 : r < 65535 := by omega
  have dq : Int.tdiv n 65535 = q := by rw [Int.tdiv_eq_ediv_of_nonneg (by omega)]; exact hq
  have dr : Int.tmod n 65535 = r := by rw [Int.tmod_eq_emod_of_nonneg (by omega)]; exact hr
  go_enter Try.func41, Try.ntmps41
  go_upto_region 2 with (first
    | (refine wpList_store_rowTo rfl 87 (.tmp 3) (.tmp 5) rfl rfl (w.heap.size + 1) _ rfl rfl 87 _ (heap_alloc_new _ _) sizeBlock rfl (by simp [Value.oneCell']) ?_; rw [World.setRow_alloc_new]))
  obtain ⟨w1, hw1⟩ : ∃ u, u = ((w.alloc (.cells #[.int .i64 0, .int .i64 0, .int .i64 0, .int .i64 0, .int .i64 0, .int .i64 0, .int .i64 0, .int .i64 0, .int .i64 0, .int .i64 0, .int .i64 0, .int .i64 0, .slice none 0 0, .slice none 0 0, .slice none 0 0, .slice none 0 0, .slice none 0 0, .slice none 0 0] 87)).alloc (.cells #[.int .i64 25, .int .i64 0, .int .i64 1, .int .i64 2, .int .i64 0, .int .i64 0, .int .i64 0, .int .i64 0, .int .i64 0, .int .i64 0, .int .i64 0, .int .i64 0, .slice none 0 0, .slice none 0 0, .slice none 0 0, .slice none 0 0, .slice none 0 0, .slice none 0 0] 87)) := ⟨_, rfl⟩
  have HS1 : Hid (LgS w w1 (w.heap.size + 1) 2 (.slice none 0 0) (.slice none 0 0) [] []) := by rw [hw1]; exact HS0
  have sw1 : w1.heap.size = w.heap.size + 1 + 1 := by rw [hw1]; simp
  have e1 := sw1
  rw [← hw1]
  clear hw1 HS0 sw1
  have HP := Lib.hid HS1.out.layP
  rw [e1] at HP
  have b15 := HP.out.blk.frozen 15
  have c15 := HP.out.blk.cell 15
  simp only [lgCells, List.getElem?_cons_succ, List.getElem?_cons_zero] at c15
  go_upto_region 3 with fail
  have HS2 := HP.out.done
  rw [World.setCell_alloc_past _ _ _ _ (by simp; omega), World.setCell_alloc_past _ _ _ _ (by simp; omega), World.setCell_alloc_past _ _ _ _ (by omega)] at HS2
  replace HS2 := Lib.hid HS2
  obtain ⟨w2, hw2⟩ : ∃ u, u = ((((w1.setCell ⟨w.heap.size + 1, 15, none⟩ (.slice (some ⟨w.heap.size + 1 + 1 + 1 + 1, 0, none⟩) 2 2)).alloc (.cells #[.int .i64 65535] 3)).alloc (.cells #[.int .i64 65535] 3)).alloc (.cells #[.int .i64 0, .slice (some ⟨w.heap.size + 1 + 1, 0, none⟩) 1 1, .int .i64 1, .slice (some ⟨w.heap.size + 1 + 1 + 1, 0, none⟩) 1 1] 113)) := ⟨_, rfl⟩
  have e2 : w2.heap.size = w.heap.size + 1 + 1 + 1 + 1 + 1 := by rw [hw2]; simp; omega
  rw [← hw2] at HS2 ⊢
  clear hw2 b15 c15 HP e1 HS1
  have HR := Lib.hid HS2.out.layR
  rw [e2] at HR
  have b17 := HR.out.blk.frozen 17
  have c17 := HR.out.blk.cell 17
  simp only [lgCells, List.getElem?_cons_succ, List.getElem?_cons_zero] at c17
  go_upto_region 4 with fail
  have HS3 := HR.out.done
  rw [World.setCell_alloc_past _ _ _ _ (by omega)] at HS3
  replace HS3 := Lib.hid HS3
  obtain ⟨w3, hw3⟩ : ∃ u, u = ((w2.setCell ⟨w.heap.size + 1, 17, none⟩ (.slice (some ⟨w.heap.size + 1 + 1 + 1 + 1 + 1, 0, none⟩) 1 1)).alloc (.cells #[.int .i64 0, .int .i64 1] 115)) := ⟨_, rfl⟩
  rw [← hw3] at HS3 ⊢
  clear hw3 b17 c17 HR HS2 e2
  go_wp2_with fail
  go_loopw [4] (fun k u => ∃ (kc : Int) (vr : Value) (R : List (Int × Int)), k = .int .i64 kc ∧ kc ≤ 65536 ∧ 0 ≤ kc ∧ Hid (LgS w u (w.heap.size + 1) 2 (.slice (some ⟨w.heap.size + 1 + 1 + 1 + 1, 0, none⟩) 2 2) vr [(0, [65535]), (1, [65535])] R) ∧ R.length ≤ 3 ∧ Hid (R ++ repsK kc = [(0, 1)] ++ repsK (q - 1))) (fun k _ => (intOf k).toNat)
  case atStart => exact ⟨q - 1, _, _, by go_num, by omega, by omega, HS3, by decide, Lib.hid rfl⟩
  case round =>
    obtain ⟨kc, vr, R, rfl, k0, k1, HL, hR, HE⟩ := hrel
    have hsz := HL.out.size
    clear HS3
    by_cases hk : 65535 ≤ kc
    · have a17 := HL.out.blk.cell 17
      simp only [lgCells, List.getElem?_cons_succ, List.getElem?_cons_zero] at a17
      have HM : Hid (min kc 65535 = 65535) := Lib.hid (Int.min_eq_right hk)
      go_wp2_with (first
 | (at_builtin; refine wpList_appL _ rfl (.tmp 21) (.tmp 23) 85 rfl w.heap.size 115 _ 2 16 Try.underlying85 infoRep rfl (by decide) (vr) R.length _ rfl HL.out.rrow #[.int .i64 1, .int .i64 65535] 1 rfl rfl (by simp [Value.oneCell']) (by decide) (by omega) (by decide) (Nat.le_of_lt hsz) ?_; intro g2 c2 w4 hown3 hg3 _; have HG := Lib.hid (HL.out.growR rfl hown3 hg3); clear hown3 hg3 a17; have b17 := HG.out.blk.frozen 17; have c17 := HG.out.blk.cell 17; simp only [lgCells, List.getElem?_cons_succ, List.getElem?_cons_zero] at c17))
      go_roundw
      case rel => exact ⟨kc - 65535, _, _, by go_num, by omega, by omega, Lib.hid HG.out.done, by simp; have := congrArg List.length HE.out; rw [repsK_step (by omega) k0] at this; have r2 := repsK_len (q - 1); simp at this; omega, Lib.hid (by rw [← HE.out, repsK_step (by omega) k0, HM.out, List.append_assoc]; rfl)⟩
      case measure => simp [intOf]; omega
    · by_cases hk2 : 0 < kc
      · have HE2 : Hid (R ++ [(1, kc)] = [(0, 1)] ++ repsK (q - 1)) := by
          have h := HE.out
          have e : repsK kc = [(1, kc)] := by unfold repsK; rw [if_neg (by omega), if_pos (by omega)]
          rw [e] at h
          exact Lib.hid h
        have a17 := HL.out.blk.cell 17
        simp only [lgCells, List.getElem?_cons_succ, List.getElem?_cons_zero] at a17
        go_upto_region 10 with (first
 | (at_builtin; refine wpList_appL _ rfl (.tmp 31) (.tmp 34) 85 rfl w.heap.size 115 _ 2 16 Try.underlying85 infoRep rfl (by decide) (vr) R.length _ rfl HL.out.rrow #[.int .i64 1, .int .i64 kc] 1 rfl rfl (by simp [Value.oneCell']) (by decide) (by omega) (by decide) (Nat.le_of_lt hsz) ?_; intro g3 c3 w6 hown3 hg3 _; have HG3 := Lib.hid (HL.out.growR rfl hown3 hg3); clear hown3 hg3 a17; have b17 := HG3.out.blk.frozen 17; have c17 := HG3.out.blk.cell 17; simp only [lgCells, List.getElem?_cons_succ, List.getElem?_cons_zero] at c17))
        have HT : Hid (LgS w (w6.setCell ⟨w.heap.size + 1, 17, none⟩ (.slice (some ⟨g3, 0, none⟩) (R.length + 1) c3)) (w.heap.size + 1) 2 (.slice (some ⟨w.heap.size + 1 + 1 + 1 + 1, 0, none⟩) 2 2) (.slice (some ⟨g3, 0, none⟩) (R.length + 1) c3) [(0, [65535]), (1, [65535])] (R ++ [(1, kc)])) := Lib.hid HG3.out.done
        obtain ⟨w7, hw7⟩ : ∃ u, u = w6.setCell ⟨w.heap.size + 1, 17, none⟩ (.slice (some ⟨g3, 0, none⟩) (R.length + 1) c3) := ⟨_, rfl⟩
        rw [← hw7] at HT ⊢
        clear hw7 b17 c17 HG3 HL HE
        obtain ⟨R', hR'⟩ : ∃ R', R' = R ++ [(1, kc)] := ⟨_, rfl⟩
        have lR' : R'.length = R.length + 1 := by rw [hR']; simp
        rw [← hR'] at HT HE2
        rw [← lR'] at HT ⊢
        clear hR'
        have hR2 : R'.length ≤ 4 := by omega
        clear lR'
        by_cases hr0 : 0 < r
        · have a3 := HT.out.blk.cell 3
          have b3 := HT.out.blk.frozen 3
          simp only [lgCells, List.getElem?_cons_succ, List.getElem?_cons_zero] at a3
          go_upto_region 12 with fail
          have HT1 : Hid (LgS w (w7.setCell ⟨w.heap.size + 1, 3, none⟩ (.int .i64 3)) (w.heap.size + 1) 3 (.slice (some ⟨w.heap.size + 1 + 1 + 1 + 1, 0, none⟩) 2 2) (.slice (some ⟨g3, 0, none⟩) R'.length c3) [(0, [65535]), (1, [65535])] (R')) := Lib.hid (HT.out.setS 3)
          obtain ⟨x1, hx1⟩ : ∃ u, u = w7.setCell ⟨w.heap.size + 1, 3, none⟩ (.int .i64 3) := ⟨_, rfl⟩
          rw [← hx1] at HT1 ⊢
          clear hx1 a3 b3 HT
          have hs1 := HT1.out.size
          have a15 := HT1.out.blk.cell 15
          simp only [lgCells, List.getElem?_cons_succ, List.getElem?_cons_zero] at a15
          obtain ⟨xp, hp1, hp2⟩ := HT1.out.prow
          have HLa := Lib.hid (HT1.out.below_ (below_alloc1 x1 (.cells #[.int .i64 r] 3)))
          have HPa := Lib.hid (own_below hp1 (below_alloc1 x1 (.cells #[.int .i64 r] 3)))
          have HCa := Lib.hid (hp2.keep fun g cs hb => hb.below_ (below_alloc1 x1 (.cells #[.int .i64 r] 3)))
          have HY := Lib.hid (Blk.new x1 3 [.int .i64 r])
          clear hp1 hp2 HT1
          go_upto_region 13 with (first
            | (at_builtin; refine wpList_appL (x1.alloc (.cells #[.int .i64 r] 3)) rfl (.tmp 42) (.tmp 47) 84 rfl w.heap.size 113 _ 2 32 Try.underlying84 infoSym rfl (by decide) (.slice (some ⟨w.heap.size + 1 + 1 + 1 + 1, 0, none⟩) 2 2) 2 xp rfl HPa.out #[.int .i64 1, .slice (some ⟨x1.heap.size, 0, none⟩) 1 1] 1 (by simp [go_sem]) rfl (by simp [Value.oneCell']) (by decide) (by omega) (by decide) (by simp; omega) ?_; intro g2 c2 x2 hown2 hg2 _; have HG := Lib.hid (HLa.out.growP HPa.out HCa.out HY.out rfl hown2 hg2); clear hown2 hg2 a15; have b15 := HG.out.blk.frozen 15; have c15 := HG.out.blk.cell 15; simp only [lgCells, List.getElem?_cons_succ, List.getElem?_cons_zero] at c15))
          have HT3 : Hid (LgS w (x2.setCell ⟨w.heap.size + 1, 15, none⟩ (.slice (some ⟨g2, 0, none⟩) 3 c2)) (w.heap.size + 1) 3 (.slice (some ⟨g2, 0, none⟩) 3 c2) (.slice (some ⟨g3, 0, none⟩) R'.length c3) ([(0, [65535]), (1, [65535])] ++ [(1, [r])]) (R')) := Lib.hid HG.out.done
          obtain ⟨x3, hx3⟩ : ∃ u, u = x2.setCell ⟨w.heap.size + 1, 15, none⟩ (.slice (some ⟨g2, 0, none⟩) 3 c2) := ⟨_, rfl⟩
          rw [← hx3] at HT3 ⊢
          clear hx3 b15 c15 HG HLa HPa HCa HY
          have hs3 := HT3.out.size
          have a17 := HT3.out.blk.cell 17
          simp only [lgCells, List.getElem?_cons_succ, List.getElem?_cons_zero] at a17
          go_upto_region 14 with (first
         | (at_builtin; refine wpList_appL _ rfl (.tmp 51) (.tmp 53) 85 rfl w.heap.size 115 _ 2 16 Try.underlying85 infoRep rfl (by decide) (.slice (some ⟨g3, 0, none⟩) R'.length c3) R'.length _ rfl HT3.out.rrow #[.int .i64 2, .int .i64 1] 1 rfl rfl (by simp [Value.oneCell']) (by decide) (by omega) (by decide) (Nat.le_of_lt hs3) ?_; intro g4 c4 x4 hown3 hg3 _; have HG4 := Lib.hid (HT3.out.growR rfl hown3 hg3); clear hown3 hg3 a17; have b17 := HG4.out.blk.frozen 17; have c17 := HG4.out.blk.cell 17; simp only [lgCells, List.getElem?_cons_succ, List.getElem?_cons_zero] at c17))
          have HT5 : Hid (LgS w (x4.setCell ⟨w.heap.size + 1, 17, none⟩ (.slice (some ⟨g4, 0, none⟩) (R'.length + 1) c4)) (w.heap.size + 1) 3 (.slice (some ⟨g2, 0, none⟩) 3 c2) (.slice (some ⟨g4, 0, none⟩) (R'.length + 1) c4) ([(0, [65535]), (1, [65535])] ++ [(1, [r])]) ((R') ++ [(2, 1)])) := Lib.hid HG4.out.done
          obtain ⟨x5, hx5⟩ : ∃ u, u = x4.setCell ⟨w.heap.size + 1, 17, none⟩ (.slice (some ⟨g4, 0, none⟩) (R'.length + 1) c4) := ⟨_, rfl⟩
          rw [← hx5] at HT5 ⊢
          clear hx5 b17 c17 HG4 HT3
          go_wp2_with (first
            | (refine wpList_load_row rfl 87 (.tmp 3) rfl (w.heap.size + 1) rfl 87 _ (0, 0) _ HT5.out.blk Try.underlying87 rfl sizeBlock ?_)
            | (refine wpList_store_rowTo rfl 87 (.tmp 2) (.tmp 56) rfl rfl w.heap.size _ rfl rfl 87 _ HT5.out.res sizeBlock rfl (by simp [lgCells, Value.oneCell']) ?_))
          refine bodyPost_ret (results_cell_row rfl _ _ w.heap.size 87 _ (0, 0) _ rfl (HT5.out.res.setRow _) Try.underlying87 rfl sizeBlock) rfl ?_
          exact LongR.mk hq hr HT5.out (by rw [if_pos hr0]) (by rw [if_pos hr0]) (by rw [if_pos hr0, HE2.out]) _
        · go_upto_region 14 with fail
          go_wp2_with (first
            | (refine wpList_load_row rfl 87 (.tmp 3) rfl (w.heap.size + 1) rfl 87 _ (0, 0) _ HT.out.blk Try.underlying87 rfl sizeBlock ?_)
            | (refine wpList_store_rowTo rfl 87 (.tmp 2) (.tmp 56) rfl rfl w.heap.size _ rfl rfl 87 _ HT.out.res sizeBlock rfl (by simp [lgCells, Value.oneCell']) ?_))
          refine bodyPost_ret (results_cell_row rfl _ _ w.heap.size 87 _ (0, 0) _ rfl (HT.out.res.setRow _) Try.underlying87 rfl sizeBlock) rfl ?_
          exact LongR.mk hq hr HT.out (by rw [if_neg (by omega)]) (by rw [if_neg (by omega), List.append_nil]) (by rw [if_neg (by omega), HE2.out, List.append_nil]) _
      · have HE2 : Hid (R = [(0, 1)] ++ repsK (q - 1)) := by
          have h := HE.out
          have e : repsK kc = [] := by unfold repsK; rw [if_pos (by omega)]
          rw [e, List.append_nil] at h
          exact Lib.hid h
        obtain ⟨A', c', rfl⟩ := own_form HL.out.rrow
        go_upto_region 10 with fail
        have HT := HL
        clear HL HE
        by_cases hr0 : 0 < r
        · have a3 := HT.out.blk.cell 3
          have b3 := HT.out.blk.frozen 3
          simp only [lgCells, List.getElem?_cons_succ, List.getElem?_cons_zero] at a3
          go_upto_region 12 with fail
          have HT1 : Hid (LgS w (wr.setCell ⟨w.heap.size + 1, 3, none⟩ (.int .i64 3)) (w.heap.size + 1) 3 (.slice (some ⟨w.heap.size + 1 + 1 + 1 + 1, 0, none⟩) 2 2) (.slice A' R.length c') [(0, [65535]), (1, [65535])] (R)) := Lib.hid (HT.out.setS 3)
          obtain ⟨x1, hx1⟩ : ∃ u, u = wr.setCell ⟨w.heap.size + 1, 3, none⟩ (.int .i64 3) := ⟨_, rfl⟩
          rw [← hx1] at HT1 ⊢
          clear hx1 a3 b3 HT
          have hs1 := HT1.out.size
          have a15 := HT1.out.blk.cell 15
          simp only [lgCells, List.getElem?_cons_succ, List.getElem?_cons_zero] at a15
          obtain ⟨xp, hp1, hp2⟩ := HT1.out.prow
          have HLa := Lib.hid (HT1.out.below_ (below_alloc1 x1 (.cells #[.int .i64 r] 3)))
          have HPa := Lib.hid (own_below hp1 (below_alloc1 x1 (.cells #[.int .i64 r] 3)))
          have HCa := Lib.hid (hp2.keep fun g cs hb => hb.below_ (below_alloc1 x1 (.cells #[.int .i64 r] 3)))
          have HY := Lib.hid (Blk.new x1 3 [.int .i64 r])
          clear hp1 hp2 HT1
          go_upto_region 13 with (first
            | (at_builtin; refine wpList_appL (x1.alloc (.cells #[.int .i64 r] 3)) rfl (.tmp 42) (.tmp 47) 84 rfl w.heap.size 113 _ 2 32 Try.underlying84 infoSym rfl (by decide) (.slice (some ⟨w.heap.size + 1 + 1 + 1 + 1, 0, none⟩) 2 2) 2 xp rfl HPa.out #[.int .i64 1, .slice (some ⟨x1.heap.size, 0, none⟩) 1 1] 1 (by simp [go_sem]) rfl (by simp [Value.oneCell']) (by decide) (by omega) (by decide) (by simp; omega) ?_; intro g2 c2 x2 hown2 hg2 _; have HG := Lib.hid (HLa.out.growP HPa.out HCa.out HY.out rfl hown2 hg2); clear hown2 hg2 a15; have b15 := HG.out.blk.frozen 15; have c15 := HG.out.blk.cell 15; simp only [lgCells, List.getElem?_cons_succ, List.getElem?_cons_zero] at c15))
          have HT3 : Hid (LgS w (x2.setCell ⟨w.heap.size + 1, 15, none⟩ (.slice (some ⟨g2, 0, none⟩) 3 c2)) (w.heap.size + 1) 3 (.slice (some ⟨g2, 0, none⟩) 3 c2) (.slice A' R.length c') ([(0, [65535]), (1, [65535])] ++ [(1, [r])]) (R)) := Lib.hid HG.out.done
          obtain ⟨x3, hx3⟩ : ∃ u, u = x2.setCell ⟨w.heap.size + 1, 15, none⟩ (.slice (some ⟨g2, 0, none⟩) 3 c2) := ⟨_, rfl⟩
          rw [← hx3] at HT3 ⊢
          clear hx3 b15 c15 HG HLa HPa HCa HY
          have hs3 := HT3.out.size
          have a17 := HT3.out.blk.cell 17
          simp only [lgCells, List.getElem?_cons_succ, List.getElem?_cons_zero] at a17
          go_upto_region 14 with (first
         | (at_builtin; refine wpList_appL _ rfl (.tmp 51) (.tmp 53) 85 rfl w.heap.size 115 _ 2 16 Try.underlying85 infoRep rfl (by decide) (.slice A' R.length c') R.length _ rfl HT3.out.rrow #[.int .i64 2, .int .i64 1] 1 rfl rfl (by simp [Value.oneCell']) (by decide) (by omega) (by decide) (Nat.le_of_lt hs3) ?_; intro g4 c4 x4 hown3 hg3 _; have HG4 := Lib.hid (HT3.out.growR rfl hown3 hg3); clear hown3 hg3 a17; have b17 := HG4.out.blk.frozen 17; have c17 := HG4.out.blk.cell 17; simp only [lgCells, List.getElem?_cons_succ, List.getElem?_cons_zero] at c17))
          have HT5 : Hid (LgS w (x4.setCell ⟨w.heap.size + 1, 17, none⟩ (.slice (some ⟨g4, 0, none⟩) (R.length + 1) c4)) (w.heap.size + 1) 3 (.slice (some ⟨g2, 0, none⟩) 3 c2) (.slice (some ⟨g4, 0, none⟩) (R.length + 1) c4) ([(0, [65535]), (1, [65535])] ++ [(1, [r])]) ((R) ++ [(2, 1)])) := Lib.hid HG4.out.done
          obtain ⟨x5, hx5⟩ : ∃ u, u = x4.setCell ⟨w.heap.size + 1, 17, none⟩ (.slice (some ⟨g4, 0, none⟩) (R.length + 1) c4) := ⟨_, rfl⟩
          rw [← hx5] at HT5 ⊢
          clear hx5 b17 c17 HG4 HT3
          go_wp2_with (first
            | (refine wpList_load_row rfl 87 (.tmp 3) rfl (w.heap.size + 1) rfl 87 _ (0, 0) _ HT5.out.blk Try.underlying87 rfl sizeBlock ?_)
            | (refine wpList_store_rowTo rfl 87 (.tmp 2) (.tmp 56) rfl rfl w.heap.size _ rfl rfl 87 _ HT5.out.res sizeBlock rfl (by simp [lgCells, Value.oneCell']) ?_))
          refine bodyPost_ret (results_cell_row rfl _ _ w.heap.size 87 _ (0, 0) _ rfl (HT5.out.res.setRow _) Try.underlying87 rfl sizeBlock) rfl ?_
          exact LongR.mk hq hr HT5.out (by rw [if_pos hr0]) (by rw [if_pos hr0]) (by rw [if_pos hr0, HE2.out]) _
        · go_upto_region 14 with fail
          go_wp2_with (first
            | (refine wpList_load_row rfl 87 (.tmp 3) rfl (w.heap.size + 1) rfl 87 _ (0, 0) _ HT.out.blk Try.underlying87 rfl sizeBlock ?_)
            | (refine wpList_store_rowTo rfl 87 (.tmp 2) (.tmp 56) rfl rfl w.heap.size _ rfl rfl 87 _ HT.out.res sizeBlock rfl (by simp [lgCells, Value.oneCell']) ?_))
          refine bodyPost_ret (results_cell_row rfl _ _ w.heap.size 87 _ (0, 0) _ rfl (HT.out.res.setRow _) Try.underlying87 rfl sizeBlock) rfl ?_
          exact LongR.mk hq hr HT.out (by rw [if_neg (by omega)]) (by rw [if_neg (by omega), List.append_nil]) (by rw [if_neg (by omega), HE2.out, List.append_nil]) _
end Go.Proofs.Ytoejmjhfecppcaa
