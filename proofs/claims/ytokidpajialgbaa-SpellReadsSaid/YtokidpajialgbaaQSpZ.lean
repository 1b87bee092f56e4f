/- spell.other, spell.sound: the branches with several tests. Written by gen_spz.py. -/
import Derived.Test.YtokidpajialgbaaQSpV
namespace Go.Proofs.Ytokidpajialgbaa
set_option linter.unusedSimpArgs false
set_option linter.unusedVariables false
open Go.RowKit
set_option maxRecDepth 100000 in
set_option maxHeartbeats 16000000 in
theorem sp_sound_17 (n1 n2 n3 n4 n5 n6 n7 n8 n9 n10 n11 : Int) (a12 a13 a14 a15 a16 a17 : Option Addr) (l12 l13 l14 l15 l16 l17 c12 c13 c14 c15 c16 c17 : Nat) (w : World) :
    Calls Try.prog 19 #[.agg #[.int .i64 17, .int .i64 n1, .int .i64 n2, .int .i64 n3, .int .i64 n4, .int .i64 n5, .int .i64 n6, .int .i64 n7, .int .i64 n8, .int .i64 n9, .int .i64 n10, .int .i64 n11, .slice a12 l12 c12, .slice a13 l13 c13, .slice a14 l14 c14, .slice a15 l15 c15, .slice a16 l16 c16, .slice a17 l17 c17]] w
      (SndR (fitS 65535 [n1, n2, n3, n4, n5, n6, n8] && (fitS 255 [n9] && fitS 16777215 [(l12 : Int)])) [.int .i64 0, .int .i64 0, .int .i64 0, .int .i64 0, .int .i64 0, .int .i64 0, .int .i64 0, .int .i64 n7, .int .i64 0, .int .i64 0, .int .i64 n10, .int .i64 n11, .slice none 0 0, .slice a13 l13 c13, .slice a14 l14 c14, .slice a15 l15 c15, .slice a16 l16 c16, .slice a17 l17 c17] w) := by
  obtain ⟨T, hT⟩ : ∃ T : List Value, T = [.int .i64 17, .int .i64 n1, .int .i64 n2, .int .i64 n3, .int .i64 n4, .int .i64 n5, .int .i64 n6, .int .i64 n7, .int .i64 n8, .int .i64 n9, .int .i64 n10, .int .i64 n11, .slice a12 l12 c12, .slice a13 l13 c13, .slice a14 l14 c14, .slice a15 l15 c15, .slice a16 l16 c16, .slice a17 l17 c17] := ⟨_, rfl⟩
  have hA : (#[.int .i64 17, .int .i64 n1, .int .i64 n2, .int .i64 n3, .int .i64 n4, .int .i64 n5, .int .i64 n6, .int .i64 n7, .int .i64 n8, .int .i64 n9, .int .i64 n10, .int .i64 n11, .slice a12 l12 c12, .slice a13 l13 c13, .slice a14 l14 c14, .slice a15 l15 c15, .slice a16 l16 c16, .slice a17 l17 c17] : Array Value) = T.toArray := by rw [hT]
  obtain ⟨Z, hZ⟩ : ∃ Z : List Value, Z = [.int .i64 0, .int .i64 0, .int .i64 0, .int .i64 0, .int .i64 0, .int .i64 0, .int .i64 0, .int .i64 0, .int .i64 0, .int .i64 0, .int .i64 0, .int .i64 0, .slice none 0 0, .slice none 0 0, .slice none 0 0, .slice none 0 0, .slice none 0 0, .slice none 0 0] := ⟨_, rfl⟩
  obtain ⟨wa, wb, wd, b1, b3, b4, H⟩ := laid3 w T Z
  have HH := Lib.hid H
  have hlen : T.length = 18 := by rw [hT]; rfl
  have HI : Hid ((Try.prog.info? 28).map (·.size) = some T.length) := by show _ = _; rw [hlen]; exact infoBlkS
  have HO : Hid (T.toArray.all (·.oneCell') = true) := by show _ = _; rw [hT]; simp; repeat' (first | rfl | constructor)
  have HZ : Hid ((Try.prog.info? 28).bind (·.zero) = some (.agg Z.toArray)) := by show _ = _; rw [hZ]; kernel_rfl
  have HZL : Hid (Z.length = T.length) := by show _ = _; rw [hZ, hT]; rfl
  obtain ⟨T2, hT2⟩ : ∃ T2 : List Value, T2 = [.int .i64 0, .int .i64 0, .int .i64 0, .int .i64 0, .int .i64 0, .int .i64 0, .int .i64 0, .int .i64 n7, .int .i64 0, .int .i64 0, .int .i64 n10, .int .i64 n11, .slice none 0 0, .slice a13 l13 c13, .slice a14 l14 c14, .slice a15 l15 c15, .slice a16 l16 c16, .slice a17 l17 c17] := ⟨_, rfl⟩
  have HBU : Hid (Try.prog.built 28 [(7, .int .i64 n7), (10, .int .i64 n10), (11, .int .i64 n11), (13, .slice a13 l13 c13), (14, .slice a14 l14 c14), (15, .slice a15 l15 c15), (16, .slice a16 l16 c16), (17, .slice a17 l17 c17)] = some T2.toArray) := by show _ = _; rw [hT2]; kernel_rfl
  have HI2 : Hid ((Try.prog.info? 28).map (·.size) = some T2.toArray.size) := by show _ = _; rw [hT2]; exact infoBlkS
  have HO2 : Hid (T2.toArray.all (·.oneCell') = true) := by show _ = _; rw [hT2]; simp; repeat' (first | rfl | constructor)
  have HZ2 : Hid (Z.length = T2.length) := by show _ = _; rw [hZ, hT2]; rfl
  have HS2 : Hid (T.toArray.size = T2.toArray.size) := by show _ = _; rw [hT, hT2]; rfl
  have HT2 : Hid ([.int .i64 0, .int .i64 0, .int .i64 0, .int .i64 0, .int .i64 0, .int .i64 0, .int .i64 0, .int .i64 n7, .int .i64 0, .int .i64 0, .int .i64 n10, .int .i64 n11, .slice none 0 0, .slice a13 l13 c13, .slice a14 l14 c14, .slice a15 l15 c15, .slice a16 l16 c16, .slice a17 l17 c17] = T2) := Lib.hid hT2.symm
  clear hT2
  have x0_0 : wd.cell? ⟨b1, 0, none⟩ = some (.int .i64 17) := by have := H.k1; rw [hT] at this; exact this.cell 0
  have x0_1 : wd.cell? ⟨b1, 1, none⟩ = some (.int .i64 n1) := by have := H.k1; rw [hT] at this; exact this.cell 1
  have x0_2 : wd.cell? ⟨b1, 2, none⟩ = some (.int .i64 n2) := by have := H.k1; rw [hT] at this; exact this.cell 2
  have x0_3 : wd.cell? ⟨b1, 3, none⟩ = some (.int .i64 n3) := by have := H.k1; rw [hT] at this; exact this.cell 3
  have x0_4 : wd.cell? ⟨b1, 4, none⟩ = some (.int .i64 n4) := by have := H.k1; rw [hT] at this; exact this.cell 4
  have x0_5 : wd.cell? ⟨b1, 5, none⟩ = some (.int .i64 n5) := by have := H.k1; rw [hT] at this; exact this.cell 5
  have x0_6 : wd.cell? ⟨b1, 6, none⟩ = some (.int .i64 n6) := by have := H.k1; rw [hT] at this; exact this.cell 6
  have x0_8 : wd.cell? ⟨b1, 8, none⟩ = some (.int .i64 n8) := by have := H.k1; rw [hT] at this; exact this.cell 8
  have x1_7 : ∀ (p : Obj), (wd.alloc p).cell? ⟨b1, 7, none⟩ = some (.int .i64 n7) := fun p => by have := H.k1; rw [hT] at this; exact (this.alloc _).cell 7
  have x1_9 : ∀ (p : Obj), (wd.alloc p).cell? ⟨b1, 9, none⟩ = some (.int .i64 n9) := fun p => by have := H.k1; rw [hT] at this; exact (this.alloc _).cell 9
  have x1_10 : ∀ (p : Obj), (wd.alloc p).cell? ⟨b1, 10, none⟩ = some (.int .i64 n10) := fun p => by have := H.k1; rw [hT] at this; exact (this.alloc _).cell 10
  have x1_11 : ∀ (p : Obj), (wd.alloc p).cell? ⟨b1, 11, none⟩ = some (.int .i64 n11) := fun p => by have := H.k1; rw [hT] at this; exact (this.alloc _).cell 11
  have x1_13 : ∀ (p : Obj), (wd.alloc p).cell? ⟨b1, 13, none⟩ = some (.slice a13 l13 c13) := fun p => by have := H.k1; rw [hT] at this; exact (this.alloc _).cell 13
  have x1_14 : ∀ (p : Obj), (wd.alloc p).cell? ⟨b1, 14, none⟩ = some (.slice a14 l14 c14) := fun p => by have := H.k1; rw [hT] at this; exact (this.alloc _).cell 14
  have x1_15 : ∀ (p : Obj), (wd.alloc p).cell? ⟨b1, 15, none⟩ = some (.slice a15 l15 c15) := fun p => by have := H.k1; rw [hT] at this; exact (this.alloc _).cell 15
  have x1_16 : ∀ (p : Obj), (wd.alloc p).cell? ⟨b1, 16, none⟩ = some (.slice a16 l16 c16) := fun p => by have := H.k1; rw [hT] at this; exact (this.alloc _).cell 16
  have x1_17 : ∀ (p : Obj), (wd.alloc p).cell? ⟨b1, 17, none⟩ = some (.slice a17 l17 c17) := fun p => by have := H.k1; rw [hT] at this; exact (this.alloc _).cell 17
  have HKL1 : Hid (∀ (p : Obj), Blk (wd.alloc p) b4 28 T) := Lib.hid (fun p => (H.k4.alloc _))
  have x2_7 : ∀ (p q : Obj), ((wd.alloc p).alloc q).cell? ⟨b1, 7, none⟩ = some (.int .i64 n7) := fun p q => by have := H.k1; rw [hT] at this; exact ((this.alloc _).alloc _).cell 7
  have x2_10 : ∀ (p q : Obj), ((wd.alloc p).alloc q).cell? ⟨b1, 10, none⟩ = some (.int .i64 n10) := fun p q => by have := H.k1; rw [hT] at this; exact ((this.alloc _).alloc _).cell 10
  have x2_11 : ∀ (p q : Obj), ((wd.alloc p).alloc q).cell? ⟨b1, 11, none⟩ = some (.int .i64 n11) := fun p q => by have := H.k1; rw [hT] at this; exact ((this.alloc _).alloc _).cell 11
  have x2_12 : ∀ (p q : Obj), ((wd.alloc p).alloc q).cell? ⟨b1, 12, none⟩ = some (.slice a12 l12 c12) := fun p q => by have := H.k1; rw [hT] at this; exact ((this.alloc _).alloc _).cell 12
  have x2_13 : ∀ (p q : Obj), ((wd.alloc p).alloc q).cell? ⟨b1, 13, none⟩ = some (.slice a13 l13 c13) := fun p q => by have := H.k1; rw [hT] at this; exact ((this.alloc _).alloc _).cell 13
  have x2_14 : ∀ (p q : Obj), ((wd.alloc p).alloc q).cell? ⟨b1, 14, none⟩ = some (.slice a14 l14 c14) := fun p q => by have := H.k1; rw [hT] at this; exact ((this.alloc _).alloc _).cell 14
  have x2_15 : ∀ (p q : Obj), ((wd.alloc p).alloc q).cell? ⟨b1, 15, none⟩ = some (.slice a15 l15 c15) := fun p q => by have := H.k1; rw [hT] at this; exact ((this.alloc _).alloc _).cell 15
  have x2_16 : ∀ (p q : Obj), ((wd.alloc p).alloc q).cell? ⟨b1, 16, none⟩ = some (.slice a16 l16 c16) := fun p q => by have := H.k1; rw [hT] at this; exact ((this.alloc _).alloc _).cell 16
  have x2_17 : ∀ (p q : Obj), ((wd.alloc p).alloc q).cell? ⟨b1, 17, none⟩ = some (.slice a17 l17 c17) := fun p q => by have := H.k1; rw [hT] at this; exact ((this.alloc _).alloc _).cell 17
  have HKL2 : Hid (∀ (p q : Obj), Blk ((wd.alloc p).alloc q) b4 28 T) := Lib.hid (fun p q => ((H.k4.alloc _).alloc _))
  have x3_7 : ∀ (p q r : Obj), (((wd.alloc p).alloc q).alloc r).cell? ⟨b1, 7, none⟩ = some (.int .i64 n7) := fun p q r => by have := H.k1; rw [hT] at this; exact (((this.alloc _).alloc _).alloc _).cell 7
  have x3_10 : ∀ (p q r : Obj), (((wd.alloc p).alloc q).alloc r).cell? ⟨b1, 10, none⟩ = some (.int .i64 n10) := fun p q r => by have := H.k1; rw [hT] at this; exact (((this.alloc _).alloc _).alloc _).cell 10
  have x3_11 : ∀ (p q r : Obj), (((wd.alloc p).alloc q).alloc r).cell? ⟨b1, 11, none⟩ = some (.int .i64 n11) := fun p q r => by have := H.k1; rw [hT] at this; exact (((this.alloc _).alloc _).alloc _).cell 11
  have x3_13 : ∀ (p q r : Obj), (((wd.alloc p).alloc q).alloc r).cell? ⟨b1, 13, none⟩ = some (.slice a13 l13 c13) := fun p q r => by have := H.k1; rw [hT] at this; exact (((this.alloc _).alloc _).alloc _).cell 13
  have x3_14 : ∀ (p q r : Obj), (((wd.alloc p).alloc q).alloc r).cell? ⟨b1, 14, none⟩ = some (.slice a14 l14 c14) := fun p q r => by have := H.k1; rw [hT] at this; exact (((this.alloc _).alloc _).alloc _).cell 14
  have x3_15 : ∀ (p q r : Obj), (((wd.alloc p).alloc q).alloc r).cell? ⟨b1, 15, none⟩ = some (.slice a15 l15 c15) := fun p q r => by have := H.k1; rw [hT] at this; exact (((this.alloc _).alloc _).alloc _).cell 15
  have x3_16 : ∀ (p q r : Obj), (((wd.alloc p).alloc q).alloc r).cell? ⟨b1, 16, none⟩ = some (.slice a16 l16 c16) := fun p q r => by have := H.k1; rw [hT] at this; exact (((this.alloc _).alloc _).alloc _).cell 16
  have x3_17 : ∀ (p q r : Obj), (((wd.alloc p).alloc q).alloc r).cell? ⟨b1, 17, none⟩ = some (.slice a17 l17 c17) := fun p q r => by have := H.k1; rw [hT] at this; exact (((this.alloc _).alloc _).alloc _).cell 17
  have HKL3 : Hid (∀ (p q r : Obj), Blk (((wd.alloc p).alloc q).alloc r) b4 28 T) := Lib.hid (fun p q r => (((H.k4.alloc _).alloc _).alloc _))
  obtain ⟨q0, hq0⟩ : ∃ q, fitS 65535 [n1, n2, n3, n4, n5, n6, n8] = q := ⟨_, rfl⟩
  have HQ0 := Lib.hid hq0
  clear hq0
  obtain ⟨q1, hq1⟩ : ∃ q, fitS 255 [n9] = q := ⟨_, rfl⟩
  have HQ1 := Lib.hid hq1
  clear hq1
  obtain ⟨q2, hq2⟩ : ∃ q, fitS 16777215 [(l12 : Int)] = q := ⟨_, rfl⟩
  have HQ2 := Lib.hid hq2
  clear hq2
  have HT := Lib.hid hT
  rw [hA]
  clear hT hA H hlen hZ
  go_enter Try.func19, Try.ntmps19
  go_upto_region 2 with (first
    | (refine Great.wpList_boxTo rfl 28 (.tmp 0) rfl (some 1) rfl b1 HH.out.e1 T.toArray rfl ?_; rw [HH.out.ea])
    | (refine wpList_allocToS rfl 28 rfl (some 3) rfl b3 HH.out.e3 (.agg Z.toArray) HZ.out ?_; rw [show (Value.agg Z.toArray).cells = Z.toArray from rfl, HH.out.eb])
    | (refine wpList_load_mid rfl 28 (.tmp 1) rfl b1 0 rfl T _ (blkR HH.out.kb) Try.underlying28 rfl HI.out ?_)
    | (refine wpList_allocToS rfl 28 rfl (some 4) rfl b4 HH.out.e4 (.agg Z.toArray) HZ.out ?_; rw [show (Value.agg Z.toArray).cells = Z.toArray from rfl])
    | (refine wpList_store_rowTo rfl 28 (.tmp 4) (.tmp 6) rfl rfl b4 T.toArray rfl rfl 28 _ (by rw [← HH.out.e4]; exact heap_alloc_new wb _) (by rw [HI.out]; simp) (by simp [HZL.out]) HO.out ?_; rw [← HH.out.e4, World.setRow_alloc_new, HH.out.e4, HH.out.ed]))
  cases q0
  · go_upto_region 10 with (first
        | (go_at_call_of 18 (Value.int .i64 65535); refine (fit_newB 65535 [n1, n2, n3, n4, n5, n6, n8] _ _ rfl 7 rfl (by decide) HQ0.out).mono ?_; rintro e w2 ⟨rfl, rfl⟩))
    refine wp_region_list ?_
    iterate 47 go_step
    refine wpList_buildTo rfl 28 #[(7, .tmp 56), (10, .tmp 58), (11, .tmp 60), (13, .tmp 62), (14, .tmp 64), (15, .tmp 66), (16, .tmp 68), (17, .tmp 70)] rfl (some 71) rfl T2.toArray (Eq.trans (congrArg _ (by simp; exact ⟨rfl, rfl, rfl, rfl, rfl, rfl, rfl, rfl⟩)) HBU.out) ?_
    refine wpList_store_rowTo rfl 28 (.tmp 4) (.tmp 71) rfl rfl b4 T2.toArray rfl rfl 28 T.toArray (HKL1.out _ ) HI2.out HS2.out HO2.out ?_
    go_upto_region 32 with fail
    obtain ⟨u, hu⟩ : ∃ u, u = ((wd.alloc (.cells #[.int .i64 n1, .int .i64 n2, .int .i64 n3, .int .i64 n4, .int .i64 n5, .int .i64 n6, .int .i64 n8] 3)).setRow b4 T2.toArray) := ⟨_, rfl⟩
    rw [← hu]
    have hk4 : Blk u b4 28 T2 := by rw [hu]; exact setRow_heap _ _ _ _ _ _ ((HH.out.k4.alloc _))
    have hk3 : Blk u b3 28 Z := by rw [hu]; exact (setRow_other _ _ _ _ (by have := HH.out.n34; omega)).trans ((HH.out.k3.alloc _))
    have hb4 : w.heap.size ≤ b4 := by have := HH.out.n34; have := HH.out.n13; have := HH.out.e1; omega
    have hbu : Below w.heap.size w u := by rw [hu]; exact below_setRow ((HH.out.bel.alloc (by have := HH.out.bel.size; simp; omega) _)) hb4 _
    have HK4 := Lib.hid hk4; have HK3 := Lib.hid hk3; have HBV := Lib.hid hbu
    have hb3 : w.heap.size ≤ b3 := by have := HH.out.n13; have := HH.out.e1; omega
    have HB3 := Lib.hid hb3
    clear hu hk4 hk3 hbu hb4 hb3 x0_0 x0_1 x0_2 x0_3 x0_4 x0_5 x0_6 x0_8 x1_7 x1_9 x1_10 x1_11 x1_13 x1_14 x1_15 x1_16 x1_17 x2_7 x2_10 x2_11 x2_12 x2_13 x2_14 x2_15 x2_16 x2_17 x3_7 x3_10 x3_11 x3_13 x3_14 x3_15 x3_16 x3_17
    refine wp_region_still_tail 3 (by kernel_rfl) (by kernel_rfl) ?_
    simp only [List.take_succ_cons, List.take_zero, List.drop_succ_cons, List.drop_zero]
    still_step
    refine wpStill_step (fun K hK => ?_)
    refine still_loadAt (by rfl) 28 (.tmp 4) rfl b4 0 rfl T2 _ (blkR HK4.out) Try.underlying28 rfl (by simpa using HI2.out) (hK _ ?_)
    clear hK K
    still_step
    refine wpStill_nil ?_
    change wpList _ _ _ _ _ u.drew
    refine wpList_store_rowTo rfl 28 (.tmp 3) (.tmp 211) rfl rfl b3 T2.toArray rfl rfl 28 Z.toArray HK3.out (by rw [HI2.out]; try simp) (by simp [HZ2.out]) HO2.out ?_
    go_wp2_with fail
    have hfin : (u.drew.setRow b3 T2.toArray).heap[b3]? = some (.cells T2.toArray 28 (0, 0)) := setRow_heap u.drew _ _ _ _ _ HK3.out
    refine bodyPost_ret (results_tmp_cell rfl _ (u.drew.setRow b3 T2.toArray) b3 28 T2.toArray (0, 0) _ rfl hfin Try.underlying28 rfl (by rw [HI2.out]; try simp)) rfl ⟨?_, ?_⟩
    · rw [HQ0.out, ← HT2.out]; first | rfl | simp
    · exact below_setRow HBV.out.drew HB3.out _
  · skip
    cases q1
    · go_upto_region 10 with (first
          | (go_at_call_of 18 (Value.int .i64 65535); refine (fit_newB 65535 [n1, n2, n3, n4, n5, n6, n8] _ _ rfl 7 rfl (by decide) HQ0.out).mono ?_; rintro e w2 ⟨rfl, rfl⟩)
          | (go_at_call_of 18 (Value.int .i64 255); refine (fit_blkB (ys := []) 255 [n9] _ _ 1 (blk_new1 wd _  [.int .i64 n9]) rfl (by decide) HQ1.out).mono ?_; rintro e w2 ⟨rfl, rfl⟩))
      refine wp_region_list ?_
      iterate 47 go_step
      refine wpList_buildTo rfl 28 #[(7, .tmp 56), (10, .tmp 58), (11, .tmp 60), (13, .tmp 62), (14, .tmp 64), (15, .tmp 66), (16, .tmp 68), (17, .tmp 70)] rfl (some 71) rfl T2.toArray (Eq.trans (congrArg _ (by simp; exact ⟨rfl, rfl, rfl, rfl, rfl, rfl, rfl, rfl⟩)) HBU.out) ?_
      refine wpList_store_rowTo rfl 28 (.tmp 4) (.tmp 71) rfl rfl b4 T2.toArray rfl rfl 28 T.toArray (HKL2.out _ _ ) HI2.out HS2.out HO2.out ?_
      go_upto_region 32 with fail
      obtain ⟨u, hu⟩ : ∃ u, u = (((wd.alloc (.cells #[.int .i64 n1, .int .i64 n2, .int .i64 n3, .int .i64 n4, .int .i64 n5, .int .i64 n6, .int .i64 n8] 3)).alloc (.cells #[.int .i64 n9] 3)).setRow b4 T2.toArray) := ⟨_, rfl⟩
      rw [← hu]
      have hk4 : Blk u b4 28 T2 := by rw [hu]; exact setRow_heap _ _ _ _ _ _ (((HH.out.k4.alloc _).alloc _))
      have hk3 : Blk u b3 28 Z := by rw [hu]; exact (setRow_other _ _ _ _ (by have := HH.out.n34; omega)).trans (((HH.out.k3.alloc _).alloc _))
      have hb4 : w.heap.size ≤ b4 := by have := HH.out.n34; have := HH.out.n13; have := HH.out.e1; omega
      have hbu : Below w.heap.size w u := by rw [hu]; exact below_setRow (((HH.out.bel.alloc (by have := HH.out.bel.size; simp; omega) _).alloc (by have := HH.out.bel.size; simp; omega) _)) hb4 _
      have HK4 := Lib.hid hk4; have HK3 := Lib.hid hk3; have HBV := Lib.hid hbu
      have hb3 : w.heap.size ≤ b3 := by have := HH.out.n13; have := HH.out.e1; omega
      have HB3 := Lib.hid hb3
      clear hu hk4 hk3 hbu hb4 hb3 x0_0 x0_1 x0_2 x0_3 x0_4 x0_5 x0_6 x0_8 x1_7 x1_9 x1_10 x1_11 x1_13 x1_14 x1_15 x1_16 x1_17 x2_7 x2_10 x2_11 x2_12 x2_13 x2_14 x2_15 x2_16 x2_17 x3_7 x3_10 x3_11 x3_13 x3_14 x3_15 x3_16 x3_17
      refine wp_region_still_tail 3 (by kernel_rfl) (by kernel_rfl) ?_
      simp only [List.take_succ_cons, List.take_zero, List.drop_succ_cons, List.drop_zero]
      still_step
      refine wpStill_step (fun K hK => ?_)
      refine still_loadAt (by rfl) 28 (.tmp 4) rfl b4 0 rfl T2 _ (blkR HK4.out) Try.underlying28 rfl (by simpa using HI2.out) (hK _ ?_)
      clear hK K
      still_step
      refine wpStill_nil ?_
      change wpList _ _ _ _ _ u.drew
      refine wpList_store_rowTo rfl 28 (.tmp 3) (.tmp 211) rfl rfl b3 T2.toArray rfl rfl 28 Z.toArray HK3.out (by rw [HI2.out]; try simp) (by simp [HZ2.out]) HO2.out ?_
      go_wp2_with fail
      have hfin : (u.drew.setRow b3 T2.toArray).heap[b3]? = some (.cells T2.toArray 28 (0, 0)) := setRow_heap u.drew _ _ _ _ _ HK3.out
      refine bodyPost_ret (results_tmp_cell rfl _ (u.drew.setRow b3 T2.toArray) b3 28 T2.toArray (0, 0) _ rfl hfin Try.underlying28 rfl (by rw [HI2.out]; try simp)) rfl ⟨?_, ?_⟩
      · rw [HQ0.out, HQ1.out, ← HT2.out]; first | rfl | simp
      · exact below_setRow HBV.out.drew HB3.out _
    · skip
      cases q2
      · go_upto_region 10 with (first
            | (go_at_call_of 18 (Value.int .i64 65535); refine (fit_newB 65535 [n1, n2, n3, n4, n5, n6, n8] _ _ rfl 7 rfl (by decide) HQ0.out).mono ?_; rintro e w2 ⟨rfl, rfl⟩)
            | (go_at_call_of 18 (Value.int .i64 255); refine (fit_blkB (ys := []) 255 [n9] _ _ 1 (blk_new1 wd _  [.int .i64 n9]) rfl (by decide) HQ1.out).mono ?_; rintro e w2 ⟨rfl, rfl⟩)
            | (go_at_call_of 18 (Value.int .i64 16777215); refine (fit_blkB (ys := []) 16777215 [(l12 : Int)] _ _ 1 (blk_new2 wd _ _  [.int .i64 (l12 : Int)]) rfl (by decide) HQ2.out).mono ?_; rintro e w2 ⟨rfl, rfl⟩))
        refine wp_region_list ?_
        iterate 47 go_step
        refine wpList_buildTo rfl 28 #[(7, .tmp 56), (10, .tmp 58), (11, .tmp 60), (13, .tmp 62), (14, .tmp 64), (15, .tmp 66), (16, .tmp 68), (17, .tmp 70)] rfl (some 71) rfl T2.toArray (Eq.trans (congrArg _ (by simp; exact ⟨rfl, rfl, rfl, rfl, rfl, rfl, rfl, rfl⟩)) HBU.out) ?_
        refine wpList_store_rowTo rfl 28 (.tmp 4) (.tmp 71) rfl rfl b4 T2.toArray rfl rfl 28 T.toArray (HKL3.out _ _ _ ) HI2.out HS2.out HO2.out ?_
        go_upto_region 32 with fail
        obtain ⟨u, hu⟩ : ∃ u, u = ((((wd.alloc (.cells #[.int .i64 n1, .int .i64 n2, .int .i64 n3, .int .i64 n4, .int .i64 n5, .int .i64 n6, .int .i64 n8] 3)).alloc (.cells #[.int .i64 n9] 3)).alloc (.cells #[.int .i64 (l12 : Int)] 3)).setRow b4 T2.toArray) := ⟨_, rfl⟩
        rw [← hu]
        have hk4 : Blk u b4 28 T2 := by rw [hu]; exact setRow_heap _ _ _ _ _ _ ((((HH.out.k4.alloc _).alloc _).alloc _))
        have hk3 : Blk u b3 28 Z := by rw [hu]; exact (setRow_other _ _ _ _ (by have := HH.out.n34; omega)).trans ((((HH.out.k3.alloc _).alloc _).alloc _))
        have hb4 : w.heap.size ≤ b4 := by have := HH.out.n34; have := HH.out.n13; have := HH.out.e1; omega
        have hbu : Below w.heap.size w u := by rw [hu]; exact below_setRow ((((HH.out.bel.alloc (by have := HH.out.bel.size; simp; omega) _).alloc (by have := HH.out.bel.size; simp; omega) _).alloc (by have := HH.out.bel.size; simp; omega) _)) hb4 _
        have HK4 := Lib.hid hk4; have HK3 := Lib.hid hk3; have HBV := Lib.hid hbu
        have hb3 : w.heap.size ≤ b3 := by have := HH.out.n13; have := HH.out.e1; omega
        have HB3 := Lib.hid hb3
        clear hu hk4 hk3 hbu hb4 hb3 x0_0 x0_1 x0_2 x0_3 x0_4 x0_5 x0_6 x0_8 x1_7 x1_9 x1_10 x1_11 x1_13 x1_14 x1_15 x1_16 x1_17 x2_7 x2_10 x2_11 x2_12 x2_13 x2_14 x2_15 x2_16 x2_17 x3_7 x3_10 x3_11 x3_13 x3_14 x3_15 x3_16 x3_17
        refine wp_region_still_tail 3 (by kernel_rfl) (by kernel_rfl) ?_
        simp only [List.take_succ_cons, List.take_zero, List.drop_succ_cons, List.drop_zero]
        still_step
        refine wpStill_step (fun K hK => ?_)
        refine still_loadAt (by rfl) 28 (.tmp 4) rfl b4 0 rfl T2 _ (blkR HK4.out) Try.underlying28 rfl (by simpa using HI2.out) (hK _ ?_)
        clear hK K
        still_step
        refine wpStill_nil ?_
        change wpList _ _ _ _ _ u.drew
        refine wpList_store_rowTo rfl 28 (.tmp 3) (.tmp 211) rfl rfl b3 T2.toArray rfl rfl 28 Z.toArray HK3.out (by rw [HI2.out]; try simp) (by simp [HZ2.out]) HO2.out ?_
        go_wp2_with fail
        have hfin : (u.drew.setRow b3 T2.toArray).heap[b3]? = some (.cells T2.toArray 28 (0, 0)) := setRow_heap u.drew _ _ _ _ _ HK3.out
        refine bodyPost_ret (results_tmp_cell rfl _ (u.drew.setRow b3 T2.toArray) b3 28 T2.toArray (0, 0) _ rfl hfin Try.underlying28 rfl (by rw [HI2.out]; try simp)) rfl ⟨?_, ?_⟩
        · rw [HQ0.out, HQ1.out, HQ2.out, ← HT2.out]; first | rfl | simp
        · exact below_setRow HBV.out.drew HB3.out _
      · skip
        go_upto_region 10 with (first
            | (go_at_call_of 18 (Value.int .i64 65535); refine (fit_newB 65535 [n1, n2, n3, n4, n5, n6, n8] _ _ rfl 7 rfl (by decide) HQ0.out).mono ?_; rintro e w2 ⟨rfl, rfl⟩)
            | (go_at_call_of 18 (Value.int .i64 255); refine (fit_blkB (ys := []) 255 [n9] _ _ 1 (blk_new1 wd _  [.int .i64 n9]) rfl (by decide) HQ1.out).mono ?_; rintro e w2 ⟨rfl, rfl⟩)
            | (go_at_call_of 18 (Value.int .i64 16777215); refine (fit_blkB (ys := []) 16777215 [(l12 : Int)] _ _ 1 (blk_new2 wd _ _  [.int .i64 (l12 : Int)]) rfl (by decide) HQ2.out).mono ?_; rintro e w2 ⟨rfl, rfl⟩))
        refine wp_region_list ?_
        iterate 47 go_step
        refine wpList_buildTo rfl 28 #[(7, .tmp 56), (10, .tmp 58), (11, .tmp 60), (13, .tmp 62), (14, .tmp 64), (15, .tmp 66), (16, .tmp 68), (17, .tmp 70)] rfl (some 71) rfl T2.toArray (Eq.trans (congrArg _ (by simp; exact ⟨rfl, rfl, rfl, rfl, rfl, rfl, rfl, rfl⟩)) HBU.out) ?_
        refine wpList_store_rowTo rfl 28 (.tmp 4) (.tmp 71) rfl rfl b4 T2.toArray rfl rfl 28 T.toArray (HKL3.out _ _ _ ) HI2.out HS2.out HO2.out ?_
        go_upto_region 32 with fail
        obtain ⟨u, hu⟩ : ∃ u, u = ((((wd.alloc (.cells #[.int .i64 n1, .int .i64 n2, .int .i64 n3, .int .i64 n4, .int .i64 n5, .int .i64 n6, .int .i64 n8] 3)).alloc (.cells #[.int .i64 n9] 3)).alloc (.cells #[.int .i64 (l12 : Int)] 3)).setRow b4 T2.toArray) := ⟨_, rfl⟩
        rw [← hu]
        have hk4 : Blk u b4 28 T2 := by rw [hu]; exact setRow_heap _ _ _ _ _ _ ((((HH.out.k4.alloc _).alloc _).alloc _))
        have hk3 : Blk u b3 28 Z := by rw [hu]; exact (setRow_other _ _ _ _ (by have := HH.out.n34; omega)).trans ((((HH.out.k3.alloc _).alloc _).alloc _))
        have hb4 : w.heap.size ≤ b4 := by have := HH.out.n34; have := HH.out.n13; have := HH.out.e1; omega
        have hbu : Below w.heap.size w u := by rw [hu]; exact below_setRow ((((HH.out.bel.alloc (by have := HH.out.bel.size; simp; omega) _).alloc (by have := HH.out.bel.size; simp; omega) _).alloc (by have := HH.out.bel.size; simp; omega) _)) hb4 _
        have HK4 := Lib.hid hk4; have HK3 := Lib.hid hk3; have HBV := Lib.hid hbu
        have hb3 : w.heap.size ≤ b3 := by have := HH.out.n13; have := HH.out.e1; omega
        have HB3 := Lib.hid hb3
        clear hu hk4 hk3 hbu hb4 hb3 x0_0 x0_1 x0_2 x0_3 x0_4 x0_5 x0_6 x0_8 x1_7 x1_9 x1_10 x1_11 x1_13 x1_14 x1_15 x1_16 x1_17 x2_7 x2_10 x2_11 x2_12 x2_13 x2_14 x2_15 x2_16 x2_17 x3_7 x3_10 x3_11 x3_13 x3_14 x3_15 x3_16 x3_17
        refine wp_region_still_tail 3 (by kernel_rfl) (by kernel_rfl) ?_
        simp only [List.take_succ_cons, List.take_zero, List.drop_succ_cons, List.drop_zero]
        still_step
        refine wpStill_step (fun K hK => ?_)
        refine still_loadAt (by rfl) 28 (.tmp 4) rfl b4 0 rfl T2 _ (blkR HK4.out) Try.underlying28 rfl (by simpa using HI2.out) (hK _ ?_)
        clear hK K
        still_step
        refine wpStill_nil ?_
        change wpList _ _ _ _ _ u.drew
        refine wpList_store_rowTo rfl 28 (.tmp 3) (.tmp 211) rfl rfl b3 T2.toArray rfl rfl 28 Z.toArray HK3.out (by rw [HI2.out]; try simp) (by simp [HZ2.out]) HO2.out ?_
        go_wp2_with fail
        have hfin : (u.drew.setRow b3 T2.toArray).heap[b3]? = some (.cells T2.toArray 28 (0, 0)) := setRow_heap u.drew _ _ _ _ _ HK3.out
        refine bodyPost_ret (results_tmp_cell rfl _ (u.drew.setRow b3 T2.toArray) b3 28 T2.toArray (0, 0) _ rfl hfin Try.underlying28 rfl (by rw [HI2.out]; try simp)) rfl ⟨?_, ?_⟩
        · rw [HQ0.out, HQ1.out, HQ2.out, ← HT2.out]; first | rfl | simp
        · exact below_setRow HBV.out.drew HB3.out _
set_option maxRecDepth 100000 in
set_option maxHeartbeats 16000000 in
theorem sp_sound_25 (n1 n2 n3 n4 n5 n6 n7 n8 n9 n10 n11 : Int) (a12 a13 a14 a15 a16 a17 : Option Addr) (l12 l13 l14 l15 l16 l17 c12 c13 c14 c15 c16 c17 : Nat) (w : World) (ok : Bool) (hit : ∀ u, Below w.heap.size w u → Calls Try.prog 39 #[.agg #[.int .i64 25, .int .i64 n1, .int .i64 n2, .int .i64 n3, .int .i64 n4, .int .i64 n5, .int .i64 n6, .int .i64 n7, .int .i64 n8, .int .i64 n9, .int .i64 n10, .int .i64 n11, .slice a12 l12 c12, .slice a13 l13 c13, .slice a14 l14 c14, .slice a15 l15 c15, .slice a16 l16 c16, .slice a17 l17 c17]] u (SaysB ok u)) :
    Calls Try.prog 19 #[.agg #[.int .i64 25, .int .i64 n1, .int .i64 n2, .int .i64 n3, .int .i64 n4, .int .i64 n5, .int .i64 n6, .int .i64 n7, .int .i64 n8, .int .i64 n9, .int .i64 n10, .int .i64 n11, .slice a12 l12 c12, .slice a13 l13 c13, .slice a14 l14 c14, .slice a15 l15 c15, .slice a16 l16 c16, .slice a17 l17 c17]] w
      (SndR (ok) [.int .i64 0, .int .i64 0, .int .i64 0, .int .i64 0, .int .i64 n4, .int .i64 0, .int .i64 0, .int .i64 n7, .int .i64 0, .int .i64 n9, .int .i64 n10, .int .i64 n11, .slice none 0 0, .slice a13 l13 c13, .slice a14 l14 c14, .slice none 0 0, .slice none 0 0, .slice none 0 0] w) := by
  obtain ⟨T, hT⟩ : ∃ T : List Value, T = [.int .i64 25, .int .i64 n1, .int .i64 n2, .int .i64 n3, .int .i64 n4, .int .i64 n5, .int .i64 n6, .int .i64 n7, .int .i64 n8, .int .i64 n9, .int .i64 n10, .int .i64 n11, .slice a12 l12 c12, .slice a13 l13 c13, .slice a14 l14 c14, .slice a15 l15 c15, .slice a16 l16 c16, .slice a17 l17 c17] := ⟨_, rfl⟩
  have hA : (#[.int .i64 25, .int .i64 n1, .int .i64 n2, .int .i64 n3, .int .i64 n4, .int .i64 n5, .int .i64 n6, .int .i64 n7, .int .i64 n8, .int .i64 n9, .int .i64 n10, .int .i64 n11, .slice a12 l12 c12, .slice a13 l13 c13, .slice a14 l14 c14, .slice a15 l15 c15, .slice a16 l16 c16, .slice a17 l17 c17] : Array Value) = T.toArray := by rw [hT]
  obtain ⟨Z, hZ⟩ : ∃ Z : List Value, Z = [.int .i64 0, .int .i64 0, .int .i64 0, .int .i64 0, .int .i64 0, .int .i64 0, .int .i64 0, .int .i64 0, .int .i64 0, .int .i64 0, .int .i64 0, .int .i64 0, .slice none 0 0, .slice none 0 0, .slice none 0 0, .slice none 0 0, .slice none 0 0, .slice none 0 0] := ⟨_, rfl⟩
  obtain ⟨wa, wb, wd, b1, b3, b4, H⟩ := laid3 w T Z
  have HH := Lib.hid H
  have hlen : T.length = 18 := by rw [hT]; rfl
  have HI : Hid ((Try.prog.info? 28).map (·.size) = some T.length) := by show _ = _; rw [hlen]; exact infoBlkS
  have HO : Hid (T.toArray.all (·.oneCell') = true) := by show _ = _; rw [hT]; simp; repeat' (first | rfl | constructor)
  have HZ : Hid ((Try.prog.info? 28).bind (·.zero) = some (.agg Z.toArray)) := by show _ = _; rw [hZ]; kernel_rfl
  have HZL : Hid (Z.length = T.length) := by show _ = _; rw [hZ, hT]; rfl
  obtain ⟨T2, hT2⟩ : ∃ T2 : List Value, T2 = [.int .i64 0, .int .i64 0, .int .i64 0, .int .i64 0, .int .i64 n4, .int .i64 0, .int .i64 0, .int .i64 n7, .int .i64 0, .int .i64 n9, .int .i64 n10, .int .i64 n11, .slice none 0 0, .slice a13 l13 c13, .slice a14 l14 c14, .slice none 0 0, .slice none 0 0, .slice none 0 0] := ⟨_, rfl⟩
  have HBU : Hid (Try.prog.built 28 [(4, .int .i64 n4), (7, .int .i64 n7), (9, .int .i64 n9), (10, .int .i64 n10), (11, .int .i64 n11), (13, .slice a13 l13 c13), (14, .slice a14 l14 c14)] = some T2.toArray) := by show _ = _; rw [hT2]; kernel_rfl
  have HI2 : Hid ((Try.prog.info? 28).map (·.size) = some T2.toArray.size) := by show _ = _; rw [hT2]; exact infoBlkS
  have HO2 : Hid (T2.toArray.all (·.oneCell') = true) := by show _ = _; rw [hT2]; simp; repeat' (first | rfl | constructor)
  have HZ2 : Hid (Z.length = T2.length) := by show _ = _; rw [hZ, hT2]; rfl
  have HS2 : Hid (T.toArray.size = T2.toArray.size) := by show _ = _; rw [hT, hT2]; rfl
  have HT2 : Hid ([.int .i64 0, .int .i64 0, .int .i64 0, .int .i64 0, .int .i64 n4, .int .i64 0, .int .i64 0, .int .i64 n7, .int .i64 0, .int .i64 n9, .int .i64 n10, .int .i64 n11, .slice none 0 0, .slice a13 l13 c13, .slice a14 l14 c14, .slice none 0 0, .slice none 0 0, .slice none 0 0] = T2) := Lib.hid hT2.symm
  clear hT2
  have x0 : wd.cell? ⟨b1, 0, none⟩ = some (.int .i64 25) := by have := H.k1; rw [hT] at this; exact this.cell 0
  have HF : Hid (∀ u, Below wd.heap.size wd u → Blk u b4 28 T ∧ u.cell? ⟨b1, 4, none⟩ = some (.int .i64 n4) ∧ u.cell? ⟨b1, 7, none⟩ = some (.int .i64 n7) ∧ u.cell? ⟨b1, 9, none⟩ = some (.int .i64 n9) ∧ u.cell? ⟨b1, 10, none⟩ = some (.int .i64 n10) ∧ u.cell? ⟨b1, 11, none⟩ = some (.int .i64 n11) ∧ u.cell? ⟨b1, 13, none⟩ = some (.slice a13 l13 c13) ∧ u.cell? ⟨b1, 14, none⟩ = some (.slice a14 l14 c14)) := Lib.hid (fun u hu => by
    have h4 := H.k4.below_ hu
    have h := H.k1.below_ hu
    rw [hT] at h
    exact ⟨h4, h.cell 4, h.cell 7, h.cell 9, h.cell 10, h.cell 11, h.cell 13, h.cell 14⟩)
  rw [hA] at hit
  have HIT := Lib.hid hit
  have HT := Lib.hid hT
  rw [hA]
  clear hit hT hA H hlen hZ
  go_enter Try.func19, Try.ntmps19
  go_upto_region 2 with (first
    | (refine Great.wpList_boxTo rfl 28 (.tmp 0) rfl (some 1) rfl b1 HH.out.e1 T.toArray rfl ?_; rw [HH.out.ea])
    | (refine wpList_allocToS rfl 28 rfl (some 3) rfl b3 HH.out.e3 (.agg Z.toArray) HZ.out ?_; rw [show (Value.agg Z.toArray).cells = Z.toArray from rfl, HH.out.eb])
    | (refine wpList_load_mid rfl 28 (.tmp 1) rfl b1 0 rfl T _ (blkR HH.out.kb) Try.underlying28 rfl HI.out ?_)
    | (refine wpList_allocToS rfl 28 rfl (some 4) rfl b4 HH.out.e4 (.agg Z.toArray) HZ.out ?_; rw [show (Value.agg Z.toArray).cells = Z.toArray from rfl])
    | (refine wpList_store_rowTo rfl 28 (.tmp 4) (.tmp 6) rfl rfl b4 T.toArray rfl rfl 28 _ (by rw [← HH.out.e4]; exact heap_alloc_new wb _) (by rw [HI.out]; simp) (by simp [HZL.out]) HO.out ?_; rw [← HH.out.e4, World.setRow_alloc_new, HH.out.e4, HH.out.ed]))
  go_upto_region 28 with (first
      | (refine wpList_load_mid rfl 28 (.tmp 1) rfl b1 0 rfl T _ (blkR HH.out.k1) Try.underlying28 rfl HI.out ?_)
      | (go_at_call 39
         refine (HIT.out _ HH.out.bel).mono ?_
         rintro e w2 ⟨rfl, hb2⟩
         obtain ⟨hk4, y4, y7, y9, y10, y11, y13, y14⟩ := HF.out w2 hb2
         have HB2 := Lib.hid hb2
         have HK4 := Lib.hid hk4
         clear hb2 hk4))
  refine wp_region_list ?_
  iterate 41 go_step
  refine wpList_buildTo rfl 28 #[(4, .tmp 189), (7, .tmp 191), (9, .tmp 193), (10, .tmp 195), (11, .tmp 197), (13, .tmp 199), (14, .tmp 201)] rfl (some 202) rfl T2.toArray (Eq.trans (congrArg _ (by simp; exact ⟨rfl, rfl, rfl, rfl, rfl, rfl, rfl⟩)) HBU.out) ?_
  refine wpList_store_rowTo rfl 28 (.tmp 4) (.tmp 202) rfl rfl b4 T2.toArray rfl rfl 28 T.toArray HK4.out HI2.out HS2.out HO2.out ?_
  go_upto_region 32 with fail
  obtain ⟨u, hu⟩ : ∃ u, u = (w2.setRow b4 T2.toArray) := ⟨_, rfl⟩
  rw [← hu]
  have hk4 : Blk u b4 28 T2 := by rw [hu]; exact setRow_heap _ _ _ _ _ _ (HK4.out)
  have hk3 : Blk u b3 28 Z := by rw [hu]; exact (setRow_other _ _ _ _ (by have := HH.out.n34; omega)).trans (HH.out.k3.below_ HB2.out)
  have hb4 : w.heap.size ≤ b4 := by have := HH.out.n34; have := HH.out.n13; have := HH.out.e1; omega
  have hbu : Below w.heap.size w u := by rw [hu]; exact below_setRow (HH.out.bel.trans (HB2.out.mono HH.out.bel.size)) hb4 _
  have HK4 := Lib.hid hk4; have HK3 := Lib.hid hk3; have HBV := Lib.hid hbu
  have hb3 : w.heap.size ≤ b3 := by have := HH.out.n13; have := HH.out.e1; omega
  have HB3 := Lib.hid hb3
  clear hu hk4 hk3 hbu hb4 hb3 x0 y4 y7 y9 y10 y11 y13 y14
  refine wp_region_still_tail 3 (by kernel_rfl) (by kernel_rfl) ?_
  simp only [List.take_succ_cons, List.take_zero, List.drop_succ_cons, List.drop_zero]
  still_step
  refine wpStill_step (fun K hK => ?_)
  refine still_loadAt (by rfl) 28 (.tmp 4) rfl b4 0 rfl T2 _ (blkR HK4.out) Try.underlying28 rfl (by simpa using HI2.out) (hK _ ?_)
  clear hK K
  still_step
  refine wpStill_nil ?_
  change wpList _ _ _ _ _ u.drew
  refine wpList_store_rowTo rfl 28 (.tmp 3) (.tmp 211) rfl rfl b3 T2.toArray rfl rfl 28 Z.toArray HK3.out (by rw [HI2.out]; try simp) (by simp [HZ2.out]) HO2.out ?_
  go_wp2_with fail
  have hfin : (u.drew.setRow b3 T2.toArray).heap[b3]? = some (.cells T2.toArray 28 (0, 0)) := setRow_heap u.drew _ _ _ _ _ HK3.out
  refine bodyPost_ret (results_tmp_cell rfl _ (u.drew.setRow b3 T2.toArray) b3 28 T2.toArray (0, 0) _ rfl hfin Try.underlying28 rfl (by rw [HI2.out]; try simp)) rfl ⟨?_, ?_⟩
  · rw [← HT2.out]; first | rfl | simp
  · exact below_setRow HBV.out.drew HB3.out _
set_option maxRecDepth 100000 in
set_option maxHeartbeats 16000000 in
theorem sp_sound_def (id : Int) (hid : ∀ k ∈ ([16, 17, 18, 19, 20, 21, 24, 25, 32] : List Int), id ≠ k) (n1 n2 n3 n4 n5 n6 n7 n8 n9 n10 n11 : Int) (a12 a13 a14 a15 a16 a17 : Option Addr) (l12 l13 l14 l15 l16 l17 c12 c13 c14 c15 c16 c17 : Nat) (w : World) (ok : Bool) (T2 : List Value) (hT2l : T2.length = 18) (hT2o : T2.toArray.all (·.oneCell') = true) (hit : ∀ u, Below w.heap.size w u → Calls Try.prog 40 #[.agg #[.int .i64 id, .int .i64 n1, .int .i64 n2, .int .i64 n3, .int .i64 n4, .int .i64 n5, .int .i64 n6, .int .i64 n7, .int .i64 n8, .int .i64 n9, .int .i64 n10, .int .i64 n11, .slice a12 l12 c12, .slice a13 l13 c13, .slice a14 l14 c14, .slice a15 l15 c15, .slice a16 l16 c16, .slice a17 l17 c17]] u (SndR ok T2 u)) :
    Calls Try.prog 19 #[.agg #[.int .i64 id, .int .i64 n1, .int .i64 n2, .int .i64 n3, .int .i64 n4, .int .i64 n5, .int .i64 n6, .int .i64 n7, .int .i64 n8, .int .i64 n9, .int .i64 n10, .int .i64 n11, .slice a12 l12 c12, .slice a13 l13 c13, .slice a14 l14 c14, .slice a15 l15 c15, .slice a16 l16 c16, .slice a17 l17 c17]] w
      (SndR (ok) T2 w) := by
  obtain ⟨T, hT⟩ : ∃ T : List Value, T = [.int .i64 id, .int .i64 n1, .int .i64 n2, .int .i64 n3, .int .i64 n4, .int .i64 n5, .int .i64 n6, .int .i64 n7, .int .i64 n8, .int .i64 n9, .int .i64 n10, .int .i64 n11, .slice a12 l12 c12, .slice a13 l13 c13, .slice a14 l14 c14, .slice a15 l15 c15, .slice a16 l16 c16, .slice a17 l17 c17] := ⟨_, rfl⟩
  have hA : (#[.int .i64 id, .int .i64 n1, .int .i64 n2, .int .i64 n3, .int .i64 n4, .int .i64 n5, .int .i64 n6, .int .i64 n7, .int .i64 n8, .int .i64 n9, .int .i64 n10, .int .i64 n11, .slice a12 l12 c12, .slice a13 l13 c13, .slice a14 l14 c14, .slice a15 l15 c15, .slice a16 l16 c16, .slice a17 l17 c17] : Array Value) = T.toArray := by rw [hT]
  obtain ⟨Z, hZ⟩ : ∃ Z : List Value, Z = [.int .i64 0, .int .i64 0, .int .i64 0, .int .i64 0, .int .i64 0, .int .i64 0, .int .i64 0, .int .i64 0, .int .i64 0, .int .i64 0, .int .i64 0, .int .i64 0, .slice none 0 0, .slice none 0 0, .slice none 0 0, .slice none 0 0, .slice none 0 0, .slice none 0 0] := ⟨_, rfl⟩
  obtain ⟨wa, wb, wd, b1, b3, b4, H⟩ := laid3 w T Z
  have HH := Lib.hid H
  have hlen : T.length = 18 := by rw [hT]; rfl
  have HI : Hid ((Try.prog.info? 28).map (·.size) = some T.length) := by show _ = _; rw [hlen]; exact infoBlkS
  have HO : Hid (T.toArray.all (·.oneCell') = true) := by show _ = _; rw [hT]; simp; repeat' (first | rfl | constructor)
  have HZ : Hid ((Try.prog.info? 28).bind (·.zero) = some (.agg Z.toArray)) := by show _ = _; rw [hZ]; kernel_rfl
  have HZL : Hid (Z.length = T.length) := by show _ = _; rw [hZ, hT]; rfl
  have HI2 : Hid ((Try.prog.info? 28).map (·.size) = some T2.toArray.size) := by show _ = _; rw [show T2.toArray.size = 18 by simpa using hT2l]; exact infoBlkS
  have HO2 := Lib.hid hT2o
  have HZ2 : Hid (Z.length = T2.length) := by show _ = _; rw [hZ, hT2l]; rfl
  have x0 : wd.cell? ⟨b1, 0, none⟩ = some (.int .i64 id) := by have := H.k1; rw [hT] at this; exact this.cell 0
  have e16 : (id == 16) = false := by simpa using hid 16 (by simp)
  have e17 : (id == 17) = false := by simpa using hid 17 (by simp)
  have e18 : (id == 18) = false := by simpa using hid 18 (by simp)
  have e19 : (id == 19) = false := by simpa using hid 19 (by simp)
  have e20 : (id == 20) = false := by simpa using hid 20 (by simp)
  have e21 : (id == 21) = false := by simpa using hid 21 (by simp)
  have e24 : (id == 24) = false := by simpa using hid 24 (by simp)
  have e25 : (id == 25) = false := by simpa using hid 25 (by simp)
  have e32 : (id == 32) = false := by simpa using hid 32 (by simp)
  rw [hA] at hit
  have HIT := Lib.hid hit
  have HT := Lib.hid hT
  rw [hA]
  clear hid hT2l hT2o hit hT hA H hlen hZ
  go_enter Try.func19, Try.ntmps19
  go_upto_region 2 with (first
    | (refine Great.wpList_boxTo rfl 28 (.tmp 0) rfl (some 1) rfl b1 HH.out.e1 T.toArray rfl ?_; rw [HH.out.ea])
    | (refine wpList_allocToS rfl 28 rfl (some 3) rfl b3 HH.out.e3 (.agg Z.toArray) HZ.out ?_; rw [show (Value.agg Z.toArray).cells = Z.toArray from rfl, HH.out.eb])
    | (refine wpList_load_mid rfl 28 (.tmp 1) rfl b1 0 rfl T _ (blkR HH.out.kb) Try.underlying28 rfl HI.out ?_)
    | (refine wpList_allocToS rfl 28 rfl (some 4) rfl b4 HH.out.e4 (.agg Z.toArray) HZ.out ?_; rw [show (Value.agg Z.toArray).cells = Z.toArray from rfl])
    | (refine wpList_store_rowTo rfl 28 (.tmp 4) (.tmp 6) rfl rfl b4 T.toArray rfl rfl 28 _ (by rw [← HH.out.e4]; exact heap_alloc_new wb _) (by rw [HI.out]; simp) (by simp [HZL.out]) HO.out ?_; rw [← HH.out.e4, World.setRow_alloc_new, HH.out.e4, HH.out.ed]))
  go_wp2_with (first
    | (refine wpList_load_mid rfl 28 (.tmp 1) rfl b1 0 rfl T _ (blkR HH.out.k1) Try.underlying28 rfl HI.out ?_)
    | (go_at_call 40
       refine (HIT.out _ HH.out.bel).mono ?_
       rintro e w2 ⟨rfl, hb2⟩
       have HB2 := Lib.hid hb2
       have HK3 := Lib.hid (HH.out.k3.below_ hb2)
       clear hb2)
    | (refine wpList_store_rowTo rfl 28 (.tmp 3) (.tmp 12) rfl rfl b3 T2.toArray rfl rfl 28 Z.toArray HK3.out HI2.out (by simp [HZ2.out]) HO2.out ?_))
  have hfin : (w2.setRow b3 T2.toArray).heap[b3]? = some (.cells T2.toArray 28 (0, 0)) := setRow_heap w2 _ _ _ _ _ HK3.out
  have hb3 : w.heap.size ≤ b3 := by have := HH.out.n13; have := HH.out.e1; omega
  refine bodyPost_ret (results_tmp_cell rfl _ (w2.setRow b3 T2.toArray) b3 28 T2.toArray (0, 0) _ rfl hfin Try.underlying28 rfl (by rw [HI2.out]; try simp)) rfl ⟨?_, ?_⟩
  · rfl
  · exact below_setRow (HH.out.bel.trans (HB2.out.mono HH.out.bel.size)) hb3 _
end Go.Proofs.Ytokidpajialgbaa
