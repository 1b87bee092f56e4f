/- spell.general: whether a generalised block's parts may be. -/
import Derived.Test.YtokidpajialgbaaQSpZ
import Derived.Test.YtokidpajialgbaaQRdH
namespace Go.Proofs.Ytokidpajialgbaa
set_option linter.unusedSimpArgs false
set_option linter.unusedVariables false
open Go.RowKit
/-- how many symbols a byte stands for -/
def manyN (n : Int) : Int := if n = 0 then 256 else n
def repB (m : Int) (x : Int × Int) : Bool := fitS (m - 1) [x.1] && fitS 65535 [x.2]
def streamB (D : List Int) (below count : Int) : Bool := decide ((D.length : Int) = ((Tz.few below : Int) * count + 8 - 1) / 8) && (decide (Tz.few below = 0) || (List.range count.toNat).all fun i => decide (Tz.symv D (Tz.few below) i < below))
def genHeadB (B : TB) : Bool := fitS 65535 [B.pause] && (fitS 255 [B.pilot, B.sync1, B.zero, B.one] && (fitS 4294967295 [B.count] && fitS 1048576 [(B.reps.length : Int), (B.data.length : Int)]))
def genPilotsB (B : TB) : Bool := if B.reps.length = 0 then decide (B.pilots.length = 0) else symsB (manyN B.sync1) B.pilot B.pilots
def genSymsB (B : TB) : Bool := if B.count = 0 then decide (B.syms.length = 0) && decide (B.data.length = 0) else symsB (manyN B.one) B.zero B.syms && streamB B.data (manyN B.one) B.count
def generalB (B : TB) : Bool := genHeadB B && (genPilotsB B && (B.reps.all (repB (manyN B.sync1)) && genSymsB B))
theorem genHead_of {B : TB} (h : genHeadB B = true) : (0 ≤ B.sync1 ∧ B.sync1 ≤ 255) ∧ (0 ≤ B.one ∧ B.one ≤ 255) ∧ (0 ≤ B.count ∧ B.count ≤ 4294967295) ∧ B.data.length ≤ 1048576 := by
  simp [genHeadB, fitS] at h
  omega
theorem same_swapG {P : Program} {f : FuncId} {args : Array Value} {w : World} {v : Value} (h : Calls P f args w fun e w' => e = .returned v ∧ w = w') : Calls P f args w fun e w' => e = .returned v ∧ w' = w := h.mono fun _ _ ⟨h1, h2⟩ => ⟨h1, h2.symm⟩
theorem many_man (n : Int) (w : World) : Calls Try.prog 68 #[.int .i64 n] w fun e w' => e = .returned (.int .i64 (manyN n)) ∧ w = w' := many_any n w
set_option maxRecDepth 100000 in
set_option maxHeartbeats 8000000 in
theorem general_any (cs : List Value) (B : TB) (w : World) (h : TBV w cs B) : Calls Try.prog 39 #[.agg cs.toArray] w (SaysB (generalB B) w) := by
  obtain ⟨hwf, d, t, i, p, s, r, hcs, hvd, hvt, hvi, hvp, hvs, hvr⟩ := h
  have hvd' := hvd; have hvp' := hvp; have hvs' := hvs; have hvr' := hvr
  obtain ⟨Ad, cd, rfl, hd1, hd2, hd3, hd4⟩ := hvd'
  obtain ⟨Ap, cp, rfl, hp1, hp2, -⟩ := hvp'
  obtain ⟨As, cS, rfl, hs1, hs2, -⟩ := hvs'
  obtain ⟨Ar, cr, rfl, hr1, hr2, hr3⟩ := hvr'
  obtain ⟨G, hG⟩ : ∃ G, G = generalB B := ⟨_, rfl⟩
  have hG2 : G = (genHeadB B && (genPilotsB B && (B.reps.all (repB (manyN B.sync1)) && genSymsB B))) := hG
  rw [← hG]
  clear hG
  obtain ⟨n0, n1, n2, n3, n4, n5, n6, n7, n8, n9, n10, n11, D, l1, l2, P, S, R⟩ := B
  simp only [TB.cells, genHeadB, genPilotsB, genSymsB] at *
  have HG0 := Lib.hid hG2
  have hHD := @genHead_of ⟨n0, n1, n2, n3, n4, n5, n6, n7, n8, n9, n10, n11, D, l1, l2, P, S, R⟩
  simp only [genHeadB] at hHD
  obtain ⟨kd, ed⟩ : ∃ k, k = D.length := ⟨_, rfl⟩
  obtain ⟨kp, ep⟩ : ∃ k, k = P.length := ⟨_, rfl⟩
  obtain ⟨ks, es⟩ : ∃ k, k = S.length := ⟨_, rfl⟩
  obtain ⟨kr, er⟩ : ∃ k, k = R.length := ⟨_, rfl⟩
  rw [← ed, ← er] at hHD
  rw [← ed, ← er, ← ep, ← es] at hG2
  rw [← ed] at hcs hvd hd2
  rw [← ep] at hcs hvp hp1
  rw [← es] at hcs hvs hs1
  rw [← er] at hcs hvr hr1
  have hwn : ∀ x ∈ D, (Lit.int .u8 x).wf = true := hd4
  have m0 : maxLen = 9223372036854775807 := rfl
  have bp : kp ≤ 9223372036854775807 := by omega
  have bs : ks ≤ 9223372036854775807 := by omega
  have br : kr ≤ 9223372036854775807 := by omega
  have bd : kd ≤ 9223372036854775807 := by omega
  have HHD := Lib.hid hHD
  have HG := Lib.hid hG2
  have ED := Lib.hid ed; have EP := Lib.hid ep; have ES := Lib.hid es; have ER := Lib.hid er
  obtain ⟨bx, hbx⟩ : ∃ b, b = w.heap.size := ⟨_, rfl⟩
  obtain ⟨wa, hwa⟩ : ∃ wa, wa = w.alloc (.cells cs.toArray 28) := ⟨_, rfl⟩
  have hA : Blk wa bx 28 cs := by rw [hwa, hbx]; exact Blk.new w _ cs
  have hbl : Below w.heap.size w wa := by rw [hwa]; exact (Below.refl _ w).alloc (Nat.le_refl _) _
  have HK : Hid (∀ u, Below wa.heap.size wa u → u.cell? ⟨bx, 1, none⟩ = some (.int .i64 n1) ∧ u.cell? ⟨bx, 2, none⟩ = some (.int .i64 n2) ∧ u.cell? ⟨bx, 3, none⟩ = some (.int .i64 n3) ∧ u.cell? ⟨bx, 5, none⟩ = some (.int .i64 n5) ∧ u.cell? ⟨bx, 6, none⟩ = some (.int .i64 n6) ∧ u.cell? ⟨bx, 8, none⟩ = some (.int .i64 n8) ∧ u.cell? ⟨bx, 12, none⟩ = some (.slice Ad kd cd) ∧ u.cell? ⟨bx, 15, none⟩ = some (.slice Ap kp cp) ∧ u.cell? ⟨bx, 16, none⟩ = some (.slice As ks cS) ∧ u.cell? ⟨bx, 17, none⟩ = some (.slice Ar kr cr)) := Lib.hid (fun u hu => by
    have h := hA.below_ hu
    rw [hcs] at h
    exact ⟨h.cell 1, h.cell 2, h.cell 3, h.cell 5, h.cell 6, h.cell 8, h.cell 12, h.cell 15, h.cell 16, h.cell 17⟩)
  have HVD : Hid (∀ u, Below wa.heap.size wa u → Ints u Ad .u8 D) := Lib.hid (fun u hu => Cells.below hd1 (hbl.trans (hu.mono hbl.size)))
  have HVP : Hid (∀ u, Below wa.heap.size wa u → PairsV u .i64 (.slice Ap kp cp) P) := Lib.hid (fun u hu => hvp.below (hbl.trans (hu.mono hbl.size)))
  have HVS : Hid (∀ u, Below wa.heap.size wa u → PairsV u .i64 (.slice As ks cS) S) := Lib.hid (fun u hu => hvs.below (hbl.trans (hu.mono hbl.size)))
  have HVR : Hid (∀ u, Below wa.heap.size wa u → ∀ i x, R[i]? = some x → ∃ g o : Nat, Ar = some ⟨g, o, none⟩ ∧ u.rangeAt g (o + i * 2) [.int .i64 x.1, .int .i64 x.2]) := Lib.hid (fun u hu i x hx => by
    obtain ⟨-, -, g, o, h1, h2⟩ := hr3 i x hx
    exact ⟨g, o, h1, rangeBelow h2 (hbl.trans (hu.mono hbl.size))⟩)
  have HBX := Lib.hid hbx; have HWA := Lib.hid hwa; have HBL := Lib.hid hbl; have HWF := Lib.hid hwn
  have HI : Hid ((Try.prog.info? 88).map (·.size) = some 2) := by show _ = _; kernel_rfl
  clear hwf hvd hvt hvi hvp hvs hvr hd1 hd2 hd3 hd4 hp1 hp2 hs1 hs2 hr1 hr2 hr3 hG2 hHD ed ep es er m0 hcs hbx hwa hA hbl hwn HG0
  obtain ⟨q0, hq0⟩ : ∃ q, fitS 65535 [n1] = q := ⟨_, rfl⟩
  obtain ⟨q1, hq1⟩ : ∃ q, fitS 255 [n2, n3, n5, n6] = q := ⟨_, rfl⟩
  obtain ⟨q2, hq2⟩ : ∃ q, fitS 4294967295 [n8] = q := ⟨_, rfl⟩
  obtain ⟨q3, hq3⟩ : ∃ q, fitS 1048576 [(kr : Int), (kd : Int)] = q := ⟨_, rfl⟩
  have HQ0 := Lib.hid hq0; have HQ1 := Lib.hid hq1; have HQ2 := Lib.hid hq2; have HQ3 := Lib.hid hq3
  clear hq0 hq1 hq2 hq3
  go_enter Try.func39, Try.ntmps39
  go_upto_region 0 with fail
  refine wp_region_list ?_
  refine Great.wpList_boxTo rfl 28 (.tmp 0) rfl (some 1) rfl bx HBX.out.symm cs.toArray rfl ?_
  rw [← HWA.out]
  have hx := HK.out wa (Below.refl _ _)
  have x0_1 := hx.1
  have x1_2 : ∀ o, (wa.alloc o).cell? ⟨bx, 2, none⟩ = _ := fun o => (HK.out _ ((Below.refl _ wa).alloc (Nat.le_refl _) _)).2.1
  have x1_3 : ∀ o, (wa.alloc o).cell? ⟨bx, 3, none⟩ = _ := fun o => (HK.out _ ((Below.refl _ wa).alloc (Nat.le_refl _) _)).2.2.1
  have x1_5 : ∀ o, (wa.alloc o).cell? ⟨bx, 5, none⟩ = _ := fun o => (HK.out _ ((Below.refl _ wa).alloc (Nat.le_refl _) _)).2.2.2.1
  have x1_6 : ∀ o, (wa.alloc o).cell? ⟨bx, 6, none⟩ = _ := fun o => (HK.out _ ((Below.refl _ wa).alloc (Nat.le_refl _) _)).2.2.2.2.1
  have x2_8 : ∀ o p, ((wa.alloc o).alloc p).cell? ⟨bx, 8, none⟩ = _ := fun o p => (HK.out _ (((Below.refl _ wa).alloc (Nat.le_refl _) _).alloc (by simp) _)).2.2.2.2.2.1
  have x3_12 : ∀ o p q, (((wa.alloc o).alloc p).alloc q).cell? ⟨bx, 12, none⟩ = _ := fun o p q => (HK.out _ ((((Below.refl _ wa).alloc (Nat.le_refl _) _).alloc (by simp) _).alloc (by simp; omega) _)).2.2.2.2.2.2.1
  have x3_17 : ∀ o p q, (((wa.alloc o).alloc p).alloc q).cell? ⟨bx, 17, none⟩ = _ := fun o p q => (HK.out _ ((((Below.refl _ wa).alloc (Nat.le_refl _) _).alloc (by simp) _).alloc (by simp; omega) _)).2.2.2.2.2.2.2.2.2
  clear hx
  cases q0
  · go_wp2_with (first
      | (go_at_call_of 18 (Value.int .i64 65535); refine (fit_newB 65535 [n1] _ _ rfl 1 rfl (by decide) HQ0.out).mono ?_; rintro e w2 ⟨rfl, rfl⟩))
    go_ret
    exact SaysB.of (HG.out.trans (by rw [HQ0.out]; rfl)).symm (HBL.out.alloc (by have := HBL.out.size; simp; omega) _)
  cases q1
  · go_wp2_with (first
      | (go_at_call_of 18 (Value.int .i64 65535); refine (fit_newB 65535 [n1] _ _ rfl 1 rfl (by decide) HQ0.out).mono ?_; rintro e w2 ⟨rfl, rfl⟩)
      | (go_at_call_of 18 (Value.int .i64 255); refine (fit_blkB (ys := []) 255 [n2, n3, n5, n6] _ _ 4 (blk_new1 wa _ [.int .i64 n2, .int .i64 n3, .int .i64 n5, .int .i64 n6]) rfl (by decide) HQ1.out).mono ?_; rintro e w2 ⟨rfl, rfl⟩))
    go_ret
    exact SaysB.of (HG.out.trans (by rw [HQ0.out, HQ1.out]; rfl)).symm ((HBL.out.alloc (by have := HBL.out.size; simp; omega) _).alloc (by have := HBL.out.size; simp; omega) _)
  cases q2
  · go_wp2_with (first
      | (go_at_call_of 18 (Value.int .i64 65535); refine (fit_newB 65535 [n1] _ _ rfl 1 rfl (by decide) HQ0.out).mono ?_; rintro e w2 ⟨rfl, rfl⟩)
      | (go_at_call_of 18 (Value.int .i64 255); refine (fit_blkB (ys := []) 255 [n2, n3, n5, n6] _ _ 4 (blk_new1 wa _ [.int .i64 n2, .int .i64 n3, .int .i64 n5, .int .i64 n6]) rfl (by decide) HQ1.out).mono ?_; rintro e w2 ⟨rfl, rfl⟩)
      | (go_at_call_of 18 (Value.int .i64 4294967295); refine (fit_blkB (ys := []) 4294967295 [n8] _ _ 1 (blk_new2 wa _ _ [.int .i64 n8]) rfl (by decide) HQ2.out).mono ?_; rintro e w2 ⟨rfl, rfl⟩))
    go_ret
    exact SaysB.of (HG.out.trans (by rw [HQ0.out, HQ1.out, HQ2.out]; rfl)).symm (((HBL.out.alloc (by have := HBL.out.size; simp; omega) _).alloc (by have := HBL.out.size; simp; omega) _).alloc (by have := HBL.out.size; simp; omega) _)
  cases q3
  · go_wp2_with (first
      | (go_at_call_of 18 (Value.int .i64 65535); refine (fit_newB 65535 [n1] _ _ rfl 1 rfl (by decide) HQ0.out).mono ?_; rintro e w2 ⟨rfl, rfl⟩)
      | (go_at_call_of 18 (Value.int .i64 255); refine (fit_blkB (ys := []) 255 [n2, n3, n5, n6] _ _ 4 (blk_new1 wa _ [.int .i64 n2, .int .i64 n3, .int .i64 n5, .int .i64 n6]) rfl (by decide) HQ1.out).mono ?_; rintro e w2 ⟨rfl, rfl⟩)
      | (go_at_call_of 18 (Value.int .i64 4294967295); refine (fit_blkB (ys := []) 4294967295 [n8] _ _ 1 (blk_new2 wa _ _ [.int .i64 n8]) rfl (by decide) HQ2.out).mono ?_; rintro e w2 ⟨rfl, rfl⟩)
      | (go_at_call_of 18 (Value.int .i64 1048576); refine (fit_blkB (ys := []) 1048576 [(kr : Int), (kd : Int)] _ _ 2 (blk_new3 wa _ _ _ [.int .i64 (kr : Int), .int .i64 (kd : Int)]) rfl (by decide) HQ3.out).mono ?_; rintro e w2 ⟨rfl, rfl⟩))
    go_ret
    exact SaysB.of (HG.out.trans (by rw [HQ0.out, HQ1.out, HQ2.out, HQ3.out]; rfl)).symm ((((HBL.out.alloc (by have := HBL.out.size; simp; omega) _).alloc (by have := HBL.out.size; simp; omega) _).alloc (by have := HBL.out.size; simp; omega) _).alloc (by have := HBL.out.size; simp; omega) _)
  go_upto_region 3 with (first
    | (go_at_call_of 18 (Value.int .i64 65535); refine (fit_newB 65535 [n1] _ _ rfl 1 rfl (by decide) HQ0.out).mono ?_; rintro e w2 ⟨rfl, rfl⟩)
    | (go_at_call_of 18 (Value.int .i64 255); refine (fit_blkB (ys := []) 255 [n2, n3, n5, n6] _ _ 4 (blk_new1 wa _ [.int .i64 n2, .int .i64 n3, .int .i64 n5, .int .i64 n6]) rfl (by decide) HQ1.out).mono ?_; rintro e w2 ⟨rfl, rfl⟩)
    | (go_at_call_of 18 (Value.int .i64 4294967295); refine (fit_blkB (ys := []) 4294967295 [n8] _ _ 1 (blk_new2 wa _ _ [.int .i64 n8]) rfl (by decide) HQ2.out).mono ?_; rintro e w2 ⟨rfl, rfl⟩)
    | (go_at_call_of 18 (Value.int .i64 1048576); refine (fit_blkB (ys := []) 1048576 [(kr : Int), (kd : Int)] _ _ 2 (blk_new3 wa _ _ _ [.int .i64 (kr : Int), .int .i64 (kd : Int)]) rfl (by decide) HQ3.out).mono ?_; rintro e w2 ⟨rfl, rfl⟩))
  obtain ⟨u, hu⟩ : ∃ u, u = ((((wa.alloc (.cells #[.int .i64 n1] 3)).alloc (.cells #[.int .i64 n2, .int .i64 n3, .int .i64 n5, .int .i64 n6] 3)).alloc (.cells #[.int .i64 n8] 3)).alloc (.cells #[.int .i64 (kr : Int), .int .i64 (kd : Int)] 3)) := ⟨_, rfl⟩
  rw [← hu]
  have hbu : Below wa.heap.size wa u := by rw [hu]; exact ((((Below.refl _ wa).alloc (Nat.le_refl _) _).alloc (by simp) _).alloc (by simp; omega) _).alloc (by simp; omega) _
  have HU := Lib.hid hbu
  clear hu x0_1 x1_2 x1_3 x1_5 x1_6 x2_8 x3_12 x3_17
  obtain ⟨z1, z2, z3, z5, z6, z8, z12, z15, z16, z17⟩ := HK.out u hbu
  clear z1 z8 z12 z15 z16 z17 z2 z5 hbu
  obtain ⟨h3, h6, h8, hdl⟩ := HHD.out (by rw [HQ0.out, HQ1.out, HQ2.out, HQ3.out]; rfl)
  have HMY := Lib.hid many_man
  go_quiet (first
    | (go_at_call 68; exact Calls.quiet_of_same (same_swapG (HMY.out _ _))))
  obtain ⟨v, hv⟩ : ∃ v, v = u.drewN nq := ⟨_, rfl⟩
  rw [← hv]
  have hbv : Below wa.heap.size wa v := by rw [hv]; exact Below_drewN HU.out nq
  have WV := Lib.hid hbv
  clear hv z3 z6
  obtain ⟨-, z2, -, -, -, -, -, z15, -, z17⟩ := HK.out v hbv
  obtain ⟨M1, hM1⟩ : ∃ M, M = manyN n3 := ⟨_, rfl⟩
  obtain ⟨M2, hM2⟩ : ∃ M, M = manyN n6 := ⟨_, rfl⟩
  have b1 : 1 ≤ M1 ∧ M1 ≤ 256 := by rw [hM1]; unfold manyN; split <;> omega
  have b2 : 1 ≤ M2 ∧ M2 ≤ 256 := by rw [hM2]; unfold manyN; split <;> omega
  have HBY : Hid (Byts D) := Lib.hid (fun x hx => by have h := HWF.out x hx; simp [Lit.wf, IntKind.min, IntKind.max, IntKind.bits, IntKind.signed] at h; omega)
  have hHK : kd ≤ 1048576 := hdl
  have WBL := HBL
  have HGS : Hid (G = ((if kr = 0 then decide (kp = 0) else symsB M1 n2 P) && (R.all (repB M1) && (if n8 = 0 then (decide (ks = 0) && decide (kd = 0)) else (symsB M2 n5 S && streamB D M2 n8))))) := Lib.hid (HG.out.trans (by rw [HQ0.out, HQ1.out, HQ2.out, HQ3.out, ← hM1, ← hM2]; rfl))
  rw [← hM1, ← hM2]
  clear hM1 hM2 hbv HG hdl
  by_cases hkr : kr = 0
  · have e0 : ((kr : Int) == 0) = true := by simp; omega
    have e1 : ¬ (0 : Int) < kr := by omega
    by_cases hkp : kp = 0
    · have e2 : ¬ (0 : Int) < kp := by omega
      have HGT : Hid (G = (R.all (repB M1) && (if n8 = 0 then (decide (ks = 0) && decide (kd = 0)) else (symsB M2 n5 S && streamB D M2 n8)))) := Lib.hid (HGS.out.trans (by rw [if_pos hkr, decide_eq_true hkp, Bool.true_and]))
      have WVS := WV
      go_wp2_with fail
      go_loopw [81] (fun idx wr => ∃ (k : Nat), idx = .int .i64 k ∧ k ≤ kr ∧ Hid ((R.take k).all (repB M1) = true) ∧ Hid (Below wa.heap.size wa wr)) (fun idx _ => kr - (intOf idx).toNat)
      case atStart => exact ⟨0, rfl, Nat.zero_le _, Lib.hid rfl, WVS⟩
      case round =>
        obtain ⟨k, rfl, hk, HA, HB⟩ := hrel
        by_cases hlt : k < kr
        · exact absurd hlt (by omega)
        · have hlt2 : ¬ (k : Int) < kr := by omega
          obtain ⟨wo, rfl⟩ : ∃ wo : World, wo = wr := ⟨_, rfl⟩
          have HRA : Hid (R.all (repB M1) = true) := by
            have h := HA.out
            rw [List.take_of_length_le (by rw [← ER.out]; omega)] at h
            exact Lib.hid h
          obtain ⟨-, -, -, z5, -, z8, z12, -, z16, -⟩ := HK.out wo HB.out
          have HB0 : Hid (Below w.heap.size w wo) := Lib.hid (WBL.out.trans (HB.out.mono WBL.out.size))
          have HGU : Hid (G = if n8 = 0 then (decide (ks = 0) && decide (kd = 0)) else (symsB M2 n5 S && streamB D M2 n8)) := Lib.hid (HGT.out.trans (by rw [HRA.out, Bool.true_and]))
          by_cases hn8 : n8 = 0
          · have e8 : (n8 == 0) = true := by simpa using hn8
            by_cases hs0 : ks = 0
            · have e9 : ((ks : Int) == 0) = true := by simp; omega
              by_cases hd0 : kd = 0
              · have e10 : ((kd : Int) == 0) = true := by simp; omega
                go_wp2_with fail
                go_ret
                exact SaysB.of (HGU.out.trans (by rw [if_pos hn8, hs0, hd0]; rfl)).symm HB0.out
              · have e10 : ((kd : Int) == 0) = false := by simp; omega
                go_wp2_with fail
                go_ret
                exact SaysB.of (HGU.out.trans (by rw [if_pos hn8, decide_eq_false hd0, Bool.and_false])).symm HB0.out
            · have e9 : ((ks : Int) == 0) = false := by simp; omega
              go_wp2_with fail
              go_ret
              exact SaysB.of (HGU.out.trans (by rw [if_pos hn8, decide_eq_false hs0, Bool.false_and])).symm HB0.out
          · have e8 : (n8 == 0) = false := by simpa using hn8
            have HGV : Hid (G = (symsB M2 n5 S && streamB D M2 n8)) := Lib.hid (HGU.out.trans (if_neg hn8))
            obtain ⟨bt, hbt⟩ : ∃ b, b = Tz.few M2 := ⟨_, rfl⟩
            have hb8 : bt ≤ 8 := by rw [hbt]; exact Tz.few_8 (by omega)
            have HBT := Lib.hid hbt
            have HFW : Hid (∀ w, Calls Try.prog 70 #[.int .i64 M2] w fun e w' => e = .returned (.int .i64 bt) ∧ w = w') := Lib.hid (fun w => by rw [hbt]; exact bits_few M2 w (by omega))
            obtain ⟨Y, hY⟩ : ∃ Y : Int, Y = ((bt : Int) * n8 + 8 - 1) / 8 := ⟨_, rfl⟩
            obtain ⟨X, hX⟩ : ∃ X : Int, X = (bt : Int) * n8 := ⟨_, rfl⟩
            have hX0 : 0 ≤ X := by rw [hX]; exact Int.mul_nonneg (by omega) (by omega)
            have hX1 : X ≤ 8 * 4294967295 := by rw [hX]; exact Int.mul_le_mul (by omega) (by omega) (by omega) (by omega)
            rw [← hX] at hY
            have w1 : IntKind.i64.wrap ((bt : Int) * n8) = X := by rw [← hX, IntKind.wrap_i64]; omega
            have w2_ : IntKind.i64.wrap (X + 8) = X + 8 := by rw [IntKind.wrap_i64]; omega
            have w3_ : IntKind.i64.wrap (X + 8 - 1) = X + 8 - 1 := by rw [IntKind.wrap_i64]; omega
            have w4_ : Int.tdiv (X + 8 - 1) 8 = Y := by rw [hY, Int.tdiv_eq_ediv_of_nonneg (by omega)]
            have w5_ : IntKind.i64.wrap Y = Y := by rw [IntKind.wrap_i64]; omega
            obtain ⟨q5, hq5⟩ : ∃ q, symsB M2 n5 S = q := ⟨_, rfl⟩
            have HQ5 : Hid (∀ u, Below wa.heap.size wa u → Calls Try.prog 69 #[.slice As ks cS, .int .i64 M2, .int .i64 n5] u (SaysB q5 u)) := Lib.hid (fun u hu => by rw [← hq5]; exact symbols_any _ S M2 n5 u (HVS.out u hu))
            have HST : Hid (streamB D M2 n8 = (decide ((kd : Int) = Y) && (decide (bt = 0) || (List.range n8.toNat).all fun i => decide (Tz.symv D bt i < M2)))) := by
              show _ = _
              unfold streamB
              rw [← hbt, ← ED.out, ← hX, ← hY]
            have HGW : Hid (G = (q5 && (decide ((kd : Int) = Y) && (decide (bt = 0) || (List.range n8.toNat).all fun i => decide (Tz.symv D bt i < M2))))) := Lib.hid (HGV.out.trans (by rw [hq5, HST.out]))
            clear hq5 hY hX hbt
            have z12a : ∀ u, Below wo.heap.size wo u → u.cell? ⟨bx, 12, none⟩ = some (.slice Ad kd cd) := fun u hu => (HK.out u (HB.out.trans (hu.mono HB.out.size))).2.2.2.2.2.2.1
            have z8a : ∀ u, Below wo.heap.size wo u → u.cell? ⟨bx, 8, none⟩ = some (.int .i64 n8) := fun u hu => (HK.out u (HB.out.trans (hu.mono HB.out.size))).2.2.2.2.2.1
            have Z12 := Lib.hid z12a; have Z8 := Lib.hid z8a
            clear z12a z8a z12
            cases q5
            · go_wp2_with (first
                | (go_at_call 70; refine (HFW.out _).mono ?_; rintro e w2 ⟨rfl, rfl⟩)
                | (go_at_call 69; refine (HQ5.out _ HB.out).mono ?_; rintro e w2 ⟨rfl, hb2⟩; have HB2 := Lib.hid hb2; clear hb2))
              go_ret
              exact SaysB.of HGW.out.symm (HB0.out.trans (HB2.out.mono HB0.out.size))
            by_cases hkd : (kd : Int) = Y
            · have ekd : ((kd : Int) == Y) = true := by simpa using hkd
              rw [decide_eq_true hkd] at HGW
              by_cases hb0 : bt = 0
              · have eb0 : ¬ ((0 : Int) < bt) := by omega
                have HB00 := Lib.hid hb0
                clear hb0
                go_wp2_with (first
                  | (go_at_call 70; refine (HFW.out _).mono ?_; rintro e w2 ⟨rfl, rfl⟩)
                  | (go_at_call 69; refine (HQ5.out _ HB.out).mono ?_; rintro e w2 ⟨rfl, hb2⟩; have x12 := Z12.out _ hb2; have x8 := Z8.out _ hb2; have HB2 := Lib.hid hb2; clear hb2))
                go_loopw [8] (fun idx wr => idx = .int .i64 0 ∧ w2 = wr) (fun idx _ => 0)
                case atStart => exact ⟨rfl, rfl⟩
                case round =>
                  obtain ⟨rfl, rfl⟩ := hrel
                  go_wp2_with fail
                  go_ret
                  exact SaysB.of (HGW.out.trans (by rw [HB00.out]; rfl)).symm (HB0.out.trans (HB2.out.mono HB0.out.size))
              · have eb0 : (0 : Int) < bt := by omega
                rw [decide_eq_false hb0] at HGW
                go_wp2_with (first
                  | (go_at_call 70; refine (HFW.out _).mono ?_; rintro e w2 ⟨rfl, rfl⟩)
                  | (go_at_call 69; refine (HQ5.out _ HB.out).mono ?_; rintro e w2 ⟨rfl, hb2⟩; have x12 := Z12.out _ hb2; have x8 := Z8.out _ hb2; have HB2 := Lib.hid hb2; have HSY := Lib.hid (fun i : Nat => symbol_any Ad kd cd D bt i w2 (HVD.out w2 (HB.out.trans (hb2.mono HB.out.size))) ED.out.symm hHK HBY.out); clear hb2))
                go_loopw [8] (fun idx wr => ∃ k : Nat, (k : Int) ≤ n8 ∧ idx = .int .i64 k ∧ Hid (((List.range k).all fun i => decide (Tz.symv D bt i < M2)) = true) ∧ w2 = wr) (fun idx _ => (n8 - intOf idx).toNat)
                case atStart => exact ⟨0, by omega, rfl, Lib.hid rfl, rfl⟩
                case round =>
                  obtain ⟨k, hk, rfl, HK2, rfl⟩ := hrel
                  by_cases hlt : (k : Int) < n8
                  · obtain ⟨x, hx⟩ : ∃ x, x = Tz.symv D bt k := ⟨_, rfl⟩
                    have HX := Lib.hid hx
                    have HSK : Hid (Calls Try.prog 71 #[.slice Ad kd cd, .int .i64 bt, .int .i64 k] w2 fun e w' => (∃ ok, e = .returned (.tuple #[.int .i64 x, .bool ok])) ∧ w2 = w') :=
                      (HSY.out k).mono fun e w' ⟨h1, h2⟩ => ⟨⟨Tz.may kd bt k, h1.trans (by rw [hx, ED.out]; rfl)⟩, h2⟩
                    clear hx
                    by_cases hbx : M2 ≤ x
                    · go_wp2_with (first
                        | (go_at_call 71; refine HSK.out.mono ?_; rintro e w3 ⟨⟨ok, rfl⟩, rfl⟩))
                      go_ret
                      refine SaysB.of (HGW.out.trans ?_).symm (HB0.out.trans (HB2.out.mono HB0.out.size))
                      rw [Bool.true_and, Bool.true_and, Bool.false_or]
                      exact all_no (k := k) (x := k) (by rw [List.getElem?_range (by omega)]) (by rw [← HX.out]; simp; omega)
                    · have v2 : IntKind.i64.wrap ((k : Int) + 1) = ((k + 1 : Nat) : Int) := by rw [IntKind.wrap_i64]; omega
                      go_wp2_with (first
                        | (go_at_call 71; refine HSK.out.mono ?_; rintro e w3 ⟨⟨ok, rfl⟩, rfl⟩))
                      go_roundw
                      case rel => exact ⟨k + 1, by omega, by go_num, Lib.hid (by rw [List.range_succ, List.all_append, HK2.out]; simp only [List.all_cons, List.all_nil, Bool.and_true, Bool.true_and]; rw [← HX.out]; simp; omega), by trivial⟩
                      case measure => simp [intOf]; omega
                  · have hk2 : n8.toNat = k := by omega
                    go_wp2_with fail
                    go_ret
                    refine SaysB.of (HGW.out.trans ?_).symm (HB0.out.trans (HB2.out.mono HB0.out.size))
                    rw [hk2, HK2.out]; rfl
            · have ekd : ((kd : Int) == Y) = false := by simpa using hkd
              rw [decide_eq_false hkd] at HGW
              go_wp2_with (first
                | (go_at_call 70; refine (HFW.out _).mono ?_; rintro e w2 ⟨rfl, rfl⟩)
                | (go_at_call 69; refine (HQ5.out _ HB.out).mono ?_; rintro e w2 ⟨rfl, hb2⟩; have x12 := Z12.out _ hb2; have x8 := Z8.out _ hb2; have HB2 := Lib.hid hb2; clear hb2))
              go_ret
              exact SaysB.of HGW.out.symm (HB0.out.trans (HB2.out.mono HB0.out.size))
    · have e2 : (0 : Int) < kp := by omega
      go_wp2_with fail
      go_ret
      exact SaysB.of (HGS.out.trans (by rw [if_pos hkr, decide_eq_false hkp]; rfl)).symm (WBL.out.trans (WV.out.mono WBL.out.size))
  · have e0 : ((kr : Int) == 0) = false := by simp; omega
    have e1 : (0 : Int) < kr := by omega
    obtain ⟨q4, hq4⟩ : ∃ q, symsB M1 n2 P = q := ⟨_, rfl⟩
    have HQ4 : Hid (∀ u, Below wa.heap.size wa u → Calls Try.prog 69 #[.slice Ap kp cp, .int .i64 M1, .int .i64 n2] u (SaysB q4 u)) := Lib.hid (fun u hu => by rw [← hq4]; exact symbols_any _ P M1 n2 u (HVP.out u hu))
    have HGR : Hid (G = (q4 && (R.all (repB M1) && (if n8 = 0 then (decide (ks = 0) && decide (kd = 0)) else (symsB M2 n5 S && streamB D M2 n8))))) := Lib.hid (HGS.out.trans (by rw [if_neg hkr, hq4]))
    clear hq4
    cases q4
    · go_wp2_with (first
        | (go_at_call 69; refine (HQ4.out _ WV.out).mono ?_; rintro e w2 ⟨rfl, hb2⟩; have HB2 := Lib.hid hb2; clear hb2))
      go_ret
      exact SaysB.of HGR.out.symm (WBL.out.trans (((WV.out.trans (HB2.out.mono WV.out.size))).mono WBL.out.size))
    · have HGT : Hid (G = (R.all (repB M1) && (if n8 = 0 then (decide (ks = 0) && decide (kd = 0)) else (symsB M2 n5 S && streamB D M2 n8)))) := HGR
      go_upto_region 6 with (first
        | (go_at_call 69; refine (HQ4.out _ WV.out).mono ?_; rintro e w5 ⟨rfl, hb5⟩; have WVS := Lib.hid (WV.out.trans (hb5.mono WV.out.size)); clear hb5))
      obtain ⟨-, -, -, -, -, -, -, -, -, z17⟩ := HK.out w5 WVS.out
      go_wp2_with fail
      go_loopw [81] (fun idx wr => ∃ (k : Nat), idx = .int .i64 k ∧ k ≤ kr ∧ Hid ((R.take k).all (repB M1) = true) ∧ Hid (Below wa.heap.size wa wr)) (fun idx _ => kr - (intOf idx).toNat)
      case atStart => exact ⟨0, rfl, Nat.zero_le _, Lib.hid rfl, WVS⟩
      case round =>
        obtain ⟨k, rfl, hk, HA, HB⟩ := hrel
        by_cases hlt : k < kr
        · have hlt2 : (k : Int) < kr := by omega
          obtain ⟨⟨x1, x2⟩, hB⟩ : ∃ x, R[k]? = some x := ⟨_, List.getElem?_eq_getElem (by rw [← ER.out]; exact hlt)⟩
          obtain ⟨g, o, hAr, hr1⟩ := HVR.out wr HB.out k _ hB
          simp only at hr1
          have HR := Lib.hid hr1; have HX := Lib.hid hB; have HAR := Lib.hid hAr
          have v2 : IntKind.i64.wrap ((k : Int) + 1) = ((k + 1 : Nat) : Int) := by rw [IntKind.wrap_i64]; omega
          have v3 : IntKind.i64.wrap (M1 - 1) = M1 - 1 := by rw [IntKind.wrap_i64]; omega
          have HNO : Hid (repB M1 (x1, x2) = false → (R.all (repB M1)) = false) := Lib.hid (all_no HX.out)
          have HSY : Hid (repB M1 (x1, x2) = (fitS (M1 - 1) [x1] && fitS 65535 [x2])) := Lib.hid rfl
          generalize hq1 : fitS (M1 - 1) [x1] = q1 at HSY
          generalize hq3 : fitS 65535 [x2] = q3 at HSY
          have HQ5 := Lib.hid hq1; have HQ6 := Lib.hid hq3
          rw [hAr]
          clear hr1 hB hAr hq1 hq3
          go_upto_region 9 with (first
            | (refine wpList_load_mid rfl 88 (.tmp 83) rfl g (o + k * 2) rfl [.int .i64 x1, .int .i64 x2] _ HR.out Try.underlying88 rfl HI.out ?_))
          obtain ⟨wb, hwb⟩ : ∃ wb, wb = wr.alloc (.cells #[.int .i64 x1, .int .i64 x2] 88) := ⟨_, rfl⟩
          obtain ⟨b, hb⟩ : ∃ b, b = wr.heap.size := ⟨_, rfl⟩
          have hbk : Blk wb b 88 [.int .i64 x1, .int .i64 x2] := by rw [hwb, hb]; exact Blk.new wr _ _
          have hbb : Below wr.heap.size wr wb := by rw [hwb]; exact (Below.refl _ wr).alloc (Nat.le_refl _) _
          rw [← hwb, ← hb]
          have y0 : wb.cell? ⟨b, 0, none⟩ = some (.int .i64 x1) := hbk.cell 0
          have y1 : ∀ o, (wb.alloc o).cell? ⟨b, 1, none⟩ = some (.int .i64 x2) := fun o => (hbk.alloc o).cell 1
          have HBB : Hid (Below wa.heap.size wa wb) := Lib.hid (HB.out.trans (hbb.mono HB.out.size))
          clear hwb hb hbk hbb
          cases q1
          · go_wp2_with (first
              | (go_at_call 18; refine (fit_newB (M1 - 1) [x1] _ _ rfl 1 rfl (by decide) HQ5.out).mono ?_; rintro e w2 ⟨rfl, rfl⟩))
            go_ret
            exact SaysB.of (HGT.out.trans (by rw [HNO.out (by rw [HSY.out]; rfl)]; rfl)).symm (WBL.out.trans (HBB.out.mono WBL.out.size |>.alloc (by have := HBB.out.size; have := WBL.out.size; omega) _))
          cases q3
          · go_wp2_with (first
              | (go_at_call_of 18 (Value.int .i64 65535); refine (fit_blkB (ys := []) 65535 [x2] _ _ 1 (blk_new1 wb _ [.int .i64 x2]) rfl (by decide) HQ6.out).mono ?_; rintro e w3 ⟨rfl, rfl⟩)
              | (go_at_call 18; refine (fit_newB (M1 - 1) [x1] _ _ rfl 1 rfl (by decide) HQ5.out).mono ?_; rintro e w2 ⟨rfl, rfl⟩))
            go_ret
            exact SaysB.of (HGT.out.trans (by rw [HNO.out (by rw [HSY.out]; rfl)]; rfl)).symm (WBL.out.trans ((HBB.out.mono WBL.out.size |>.alloc (by have := HBB.out.size; have := WBL.out.size; omega) _).alloc (by have := HBB.out.size; have := WBL.out.size; simp; omega) _))
          · go_wp2_with (first
              | (go_at_call_of 18 (Value.int .i64 65535); refine (fit_blkB (ys := []) 65535 [x2] _ _ 1 (blk_new1 wb _ [.int .i64 x2]) rfl (by decide) HQ6.out).mono ?_; rintro e w3 ⟨rfl, rfl⟩)
              | (go_at_call 18; refine (fit_newB (M1 - 1) [x1] _ _ rfl 1 rfl (by decide) HQ5.out).mono ?_; rintro e w2 ⟨rfl, rfl⟩))
            go_roundw
            case rel => exact ⟨k + 1, by go_num, by omega, Lib.hid (all_step HX.out HA.out (by rw [HSY.out]; rfl)), Lib.hid ((HBB.out.alloc HBB.out.size _).alloc (by have := HBB.out.size; simp; omega) _)⟩
            case measure => simp [intOf]; omega
        · have hlt2 : ¬ (k : Int) < kr := by omega
          obtain ⟨wo, rfl⟩ : ∃ wo : World, wo = wr := ⟨_, rfl⟩
          have HRA : Hid (R.all (repB M1) = true) := by
            have h := HA.out
            rw [List.take_of_length_le (by rw [← ER.out]; omega)] at h
            exact Lib.hid h
          obtain ⟨-, -, -, z5, -, z8, z12, -, z16, -⟩ := HK.out wo HB.out
          have HB0 : Hid (Below w.heap.size w wo) := Lib.hid (WBL.out.trans (HB.out.mono WBL.out.size))
          have HGU : Hid (G = if n8 = 0 then (decide (ks = 0) && decide (kd = 0)) else (symsB M2 n5 S && streamB D M2 n8)) := Lib.hid (HGT.out.trans (by rw [HRA.out, Bool.true_and]))
          by_cases hn8 : n8 = 0
          · have e8 : (n8 == 0) = true := by simpa using hn8
            by_cases hs0 : ks = 0
            · have e9 : ((ks : Int) == 0) = true := by simp; omega
              by_cases hd0 : kd = 0
              · have e10 : ((kd : Int) == 0) = true := by simp; omega
                go_wp2_with fail
                go_ret
                exact SaysB.of (HGU.out.trans (by rw [if_pos hn8, hs0, hd0]; rfl)).symm HB0.out
              · have e10 : ((kd : Int) == 0) = false := by simp; omega
                go_wp2_with fail
                go_ret
                exact SaysB.of (HGU.out.trans (by rw [if_pos hn8, decide_eq_false hd0, Bool.and_false])).symm HB0.out
            · have e9 : ((ks : Int) == 0) = false := by simp; omega
              go_wp2_with fail
              go_ret
              exact SaysB.of (HGU.out.trans (by rw [if_pos hn8, decide_eq_false hs0, Bool.false_and])).symm HB0.out
          · have e8 : (n8 == 0) = false := by simpa using hn8
            have HGV : Hid (G = (symsB M2 n5 S && streamB D M2 n8)) := Lib.hid (HGU.out.trans (if_neg hn8))
            obtain ⟨bt, hbt⟩ : ∃ b, b = Tz.few M2 := ⟨_, rfl⟩
            have hb8 : bt ≤ 8 := by rw [hbt]; exact Tz.few_8 (by omega)
            have HBT := Lib.hid hbt
            have HFW : Hid (∀ w, Calls Try.prog 70 #[.int .i64 M2] w fun e w' => e = .returned (.int .i64 bt) ∧ w = w') := Lib.hid (fun w => by rw [hbt]; exact bits_few M2 w (by omega))
            obtain ⟨Y, hY⟩ : ∃ Y : Int, Y = ((bt : Int) * n8 + 8 - 1) / 8 := ⟨_, rfl⟩
            obtain ⟨X, hX⟩ : ∃ X : Int, X = (bt : Int) * n8 := ⟨_, rfl⟩
            have hX0 : 0 ≤ X := by rw [hX]; exact Int.mul_nonneg (by omega) (by omega)
            have hX1 : X ≤ 8 * 4294967295 := by rw [hX]; exact Int.mul_le_mul (by omega) (by omega) (by omega) (by omega)
            rw [← hX] at hY
            have w1 : IntKind.i64.wrap ((bt : Int) * n8) = X := by rw [← hX, IntKind.wrap_i64]; omega
            have w2_ : IntKind.i64.wrap (X + 8) = X + 8 := by rw [IntKind.wrap_i64]; omega
            have w3_ : IntKind.i64.wrap (X + 8 - 1) = X + 8 - 1 := by rw [IntKind.wrap_i64]; omega
            have w4_ : Int.tdiv (X + 8 - 1) 8 = Y := by rw [hY, Int.tdiv_eq_ediv_of_nonneg (by omega)]
            have w5_ : IntKind.i64.wrap Y = Y := by rw [IntKind.wrap_i64]; omega
            obtain ⟨q5, hq5⟩ : ∃ q, symsB M2 n5 S = q := ⟨_, rfl⟩
            have HQ5 : Hid (∀ u, Below wa.heap.size wa u → Calls Try.prog 69 #[.slice As ks cS, .int .i64 M2, .int .i64 n5] u (SaysB q5 u)) := Lib.hid (fun u hu => by rw [← hq5]; exact symbols_any _ S M2 n5 u (HVS.out u hu))
            have HST : Hid (streamB D M2 n8 = (decide ((kd : Int) = Y) && (decide (bt = 0) || (List.range n8.toNat).all fun i => decide (Tz.symv D bt i < M2)))) := by
              show _ = _
              unfold streamB
              rw [← hbt, ← ED.out, ← hX, ← hY]
            have HGW : Hid (G = (q5 && (decide ((kd : Int) = Y) && (decide (bt = 0) || (List.range n8.toNat).all fun i => decide (Tz.symv D bt i < M2))))) := Lib.hid (HGV.out.trans (by rw [hq5, HST.out]))
            clear hq5 hY hX hbt
            have z12a : ∀ u, Below wo.heap.size wo u → u.cell? ⟨bx, 12, none⟩ = some (.slice Ad kd cd) := fun u hu => (HK.out u (HB.out.trans (hu.mono HB.out.size))).2.2.2.2.2.2.1
            have z8a : ∀ u, Below wo.heap.size wo u → u.cell? ⟨bx, 8, none⟩ = some (.int .i64 n8) := fun u hu => (HK.out u (HB.out.trans (hu.mono HB.out.size))).2.2.2.2.2.1
            have Z12 := Lib.hid z12a; have Z8 := Lib.hid z8a
            clear z12a z8a z12
            cases q5
            · go_wp2_with (first
                | (go_at_call 70; refine (HFW.out _).mono ?_; rintro e w2 ⟨rfl, rfl⟩)
                | (go_at_call 69; refine (HQ5.out _ HB.out).mono ?_; rintro e w2 ⟨rfl, hb2⟩; have HB2 := Lib.hid hb2; clear hb2))
              go_ret
              exact SaysB.of HGW.out.symm (HB0.out.trans (HB2.out.mono HB0.out.size))
            by_cases hkd : (kd : Int) = Y
            · have ekd : ((kd : Int) == Y) = true := by simpa using hkd
              rw [decide_eq_true hkd] at HGW
              by_cases hb0 : bt = 0
              · have eb0 : ¬ ((0 : Int) < bt) := by omega
                have HB00 := Lib.hid hb0
                clear hb0
                go_wp2_with (first
                  | (go_at_call 70; refine (HFW.out _).mono ?_; rintro e w2 ⟨rfl, rfl⟩)
                  | (go_at_call 69; refine (HQ5.out _ HB.out).mono ?_; rintro e w2 ⟨rfl, hb2⟩; have x12 := Z12.out _ hb2; have x8 := Z8.out _ hb2; have HB2 := Lib.hid hb2; clear hb2))
                go_loopw [8] (fun idx wr => idx = .int .i64 0 ∧ w2 = wr) (fun idx _ => 0)
                case atStart => exact ⟨rfl, rfl⟩
                case round =>
                  obtain ⟨rfl, rfl⟩ := hrel
                  go_wp2_with fail
                  go_ret
                  exact SaysB.of (HGW.out.trans (by rw [HB00.out]; rfl)).symm (HB0.out.trans (HB2.out.mono HB0.out.size))
              · have eb0 : (0 : Int) < bt := by omega
                rw [decide_eq_false hb0] at HGW
                go_wp2_with (first
                  | (go_at_call 70; refine (HFW.out _).mono ?_; rintro e w2 ⟨rfl, rfl⟩)
                  | (go_at_call 69; refine (HQ5.out _ HB.out).mono ?_; rintro e w2 ⟨rfl, hb2⟩; have x12 := Z12.out _ hb2; have x8 := Z8.out _ hb2; have HB2 := Lib.hid hb2; have HSY := Lib.hid (fun i : Nat => symbol_any Ad kd cd D bt i w2 (HVD.out w2 (HB.out.trans (hb2.mono HB.out.size))) ED.out.symm hHK HBY.out); clear hb2))
                go_loopw [8] (fun idx wr => ∃ k : Nat, (k : Int) ≤ n8 ∧ idx = .int .i64 k ∧ Hid (((List.range k).all fun i => decide (Tz.symv D bt i < M2)) = true) ∧ w2 = wr) (fun idx _ => (n8 - intOf idx).toNat)
                case atStart => exact ⟨0, by omega, rfl, Lib.hid rfl, rfl⟩
                case round =>
                  obtain ⟨k, hk, rfl, HK2, rfl⟩ := hrel
                  by_cases hlt : (k : Int) < n8
                  · obtain ⟨x, hx⟩ : ∃ x, x = Tz.symv D bt k := ⟨_, rfl⟩
                    have HX := Lib.hid hx
                    have HSK : Hid (Calls Try.prog 71 #[.slice Ad kd cd, .int .i64 bt, .int .i64 k] w2 fun e w' => (∃ ok, e = .returned (.tuple #[.int .i64 x, .bool ok])) ∧ w2 = w') :=
                      (HSY.out k).mono fun e w' ⟨h1, h2⟩ => ⟨⟨Tz.may kd bt k, h1.trans (by rw [hx, ED.out]; rfl)⟩, h2⟩
                    clear hx
                    by_cases hbx : M2 ≤ x
                    · go_wp2_with (first
                        | (go_at_call 71; refine HSK.out.mono ?_; rintro e w3 ⟨⟨ok, rfl⟩, rfl⟩))
                      go_ret
                      refine SaysB.of (HGW.out.trans ?_).symm (HB0.out.trans (HB2.out.mono HB0.out.size))
                      rw [Bool.true_and, Bool.true_and, Bool.false_or]
                      exact all_no (k := k) (x := k) (by rw [List.getElem?_range (by omega)]) (by rw [← HX.out]; simp; omega)
                    · have v2 : IntKind.i64.wrap ((k : Int) + 1) = ((k + 1 : Nat) : Int) := by rw [IntKind.wrap_i64]; omega
                      go_wp2_with (first
                        | (go_at_call 71; refine HSK.out.mono ?_; rintro e w3 ⟨⟨ok, rfl⟩, rfl⟩))
                      go_roundw
                      case rel => exact ⟨k + 1, by omega, by go_num, Lib.hid (by rw [List.range_succ, List.all_append, HK2.out]; simp only [List.all_cons, List.all_nil, Bool.and_true, Bool.true_and]; rw [← HX.out]; simp; omega), by trivial⟩
                      case measure => simp [intOf]; omega
                  · have hk2 : n8.toNat = k := by omega
                    go_wp2_with fail
                    go_ret
                    refine SaysB.of (HGW.out.trans ?_).symm (HB0.out.trans (HB2.out.mono HB0.out.size))
                    rw [hk2, HK2.out]; rfl
            · have ekd : ((kd : Int) == Y) = false := by simpa using hkd
              rw [decide_eq_false hkd] at HGW
              go_wp2_with (first
                | (go_at_call 70; refine (HFW.out _).mono ?_; rintro e w2 ⟨rfl, rfl⟩)
                | (go_at_call 69; refine (HQ5.out _ HB.out).mono ?_; rintro e w2 ⟨rfl, hb2⟩; have x12 := Z12.out _ hb2; have x8 := Z8.out _ hb2; have HB2 := Lib.hid hb2; clear hb2))
              go_ret
              exact SaysB.of HGW.out.symm (HB0.out.trans (HB2.out.mono HB0.out.size))
end Go.Proofs.Ytokidpajialgbaa
