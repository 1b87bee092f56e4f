/- spell.other, spell.sound: the branches with several tests. Written by gen_spx.py. -/
import Derived.Test.YtokidpajialgbaaQSpV
namespace Go.Proofs.Ytokidpajialgbaa
set_option linter.unusedSimpArgs false
set_option linter.unusedVariables false
open Go.RowKit
set_option maxRecDepth 100000 in
set_option maxHeartbeats 16000000 in
theorem sp_sound_19 (n1 n2 n3 n4 n5 n6 n7 n8 n9 n10 n11 : Int) (a12 a13 a14 a15 a16 a17 : Option Addr) (l12 l13 l14 l15 l16 l17 c12 c13 c14 c15 c16 c17 : Nat) (w : World) (r13 : List Int) (hv13 : RowV w .i64 (.slice a13 l13 c13) r13) :
    Calls Try.prog 19 #[.agg #[.int .i64 19, .int .i64 n1, .int .i64 n2, .int .i64 n3, .int .i64 n4, .int .i64 n5, .int .i64 n6, .int .i64 n7, .int .i64 n8, .int .i64 n9, .int .i64 n10, .int .i64 n11, .slice a12 l12 c12, .slice a13 l13 c13, .slice a14 l14 c14, .slice a15 l15 c15, .slice a16 l16 c16, .slice a17 l17 c17]] w
      (SndR (fitS 255 [(l13 : Int)] && (fitS 65535 r13)) [.int .i64 19, .int .i64 n1, .int .i64 n2, .int .i64 n3, .int .i64 n4, .int .i64 n5, .int .i64 n6, .int .i64 n7, .int .i64 n8, .int .i64 n9, .int .i64 n10, .int .i64 n11, .slice a12 l12 c12, .slice none 0 0, .slice a14 l14 c14, .slice a15 l15 c15, .slice a16 l16 c16, .slice a17 l17 c17] w) := by
  obtain ⟨T, hT⟩ : ∃ T : List Value, T = [.int .i64 19, .int .i64 n1, .int .i64 n2, .int .i64 n3, .int .i64 n4, .int .i64 n5, .int .i64 n6, .int .i64 n7, .int .i64 n8, .int .i64 n9, .int .i64 n10, .int .i64 n11, .slice a12 l12 c12, .slice a13 l13 c13, .slice a14 l14 c14, .slice a15 l15 c15, .slice a16 l16 c16, .slice a17 l17 c17] := ⟨_, rfl⟩
  have hA : (#[.int .i64 19, .int .i64 n1, .int .i64 n2, .int .i64 n3, .int .i64 n4, .int .i64 n5, .int .i64 n6, .int .i64 n7, .int .i64 n8, .int .i64 n9, .int .i64 n10, .int .i64 n11, .slice a12 l12 c12, .slice a13 l13 c13, .slice a14 l14 c14, .slice a15 l15 c15, .slice a16 l16 c16, .slice a17 l17 c17] : Array Value) = T.toArray := by rw [hT]
  obtain ⟨Z, hZ⟩ : ∃ Z : List Value, Z = [.int .i64 0, .int .i64 0, .int .i64 0, .int .i64 0, .int .i64 0, .int .i64 0, .int .i64 0, .int .i64 0, .int .i64 0, .int .i64 0, .int .i64 0, .int .i64 0, .slice none 0 0, .slice none 0 0, .slice none 0 0, .slice none 0 0, .slice none 0 0, .slice none 0 0] := ⟨_, rfl⟩
  obtain ⟨wa, wb, wd, b1, b3, b4, H⟩ := laid3 w T Z
  have HH := Lib.hid H
  have hlen : T.length = 18 := by rw [hT]; rfl
  have HI : Hid ((Try.prog.info? 28).map (·.size) = some T.length) := by show _ = _; rw [hlen]; exact infoBlkS
  have HO : Hid (T.toArray.all (·.oneCell') = true) := by show _ = _; rw [hT]; simp; repeat' (first | rfl | constructor)
  have HZ : Hid ((Try.prog.info? 28).bind (·.zero) = some (.agg Z.toArray)) := by show _ = _; rw [hZ]; kernel_rfl
  have HZL : Hid (Z.length = T.length) := by show _ = _; rw [hZ, hT]; rfl
  have HR13 := Lib.hid (fun u (hu : Below wd.heap.size wd u) => hv13.below (H.bel.trans (hu.mono H.bel.size)))
  have x0_0 : wd.cell? ⟨b1, 0, none⟩ = some (.int .i64 19) := by have := H.k1; rw [hT] at this; exact this.cell 0
  have x0_13 : wd.cell? ⟨b1, 13, none⟩ = some (.slice a13 l13 c13) := by have := H.k1; rw [hT] at this; exact this.cell 13
  have x1_13 : ∀ (p : Obj), (wd.alloc p).cell? ⟨b1, 13, none⟩ = some (.slice a13 l13 c13) := fun p => by have := H.k1; rw [hT] at this; exact (this.alloc _).cell 13
  have f4_1 : ∀ (p : Obj), ∀ i : Nat, (wd.alloc p).frozen? ⟨b4, i, none⟩ = false := fun p => fun i => ((H.k4.alloc _)).frozen i
  have g1_13 : ∀ (p : Obj), (wd.alloc p).cell? ⟨b4, 13, none⟩ = some (.slice a13 l13 c13) := fun p => by have := H.k4; rw [hT] at this; exact (this.alloc _).cell 13
  obtain ⟨q0, hq0⟩ : ∃ q, fitS 255 [(l13 : Int)] = q := ⟨_, rfl⟩
  have HQ0 := Lib.hid hq0
  clear hq0
  obtain ⟨q1, hq1⟩ : ∃ q, fitS 65535 r13 = q := ⟨_, rfl⟩
  have HQ1 := Lib.hid hq1
  clear hq1
  have HT := Lib.hid hT
  rw [hA]
  clear hT hA H hlen hZ
  go_enter Try.func19, Try.ntmps19
  go_upto_region 2 with (first
    | (refine Great.wpList_boxTo rfl 28 (.tmp 0) rfl (some 1) rfl b1 HH.out.e1 T.toArray rfl ?_; rw [HH.out.ea])
    | (refine wpList_allocToS rfl 28 rfl (some 3) rfl b3 HH.out.e3 (.agg Z.toArray) HZ.out ?_; rw [show (Value.agg Z.toArray).cells = Z.toArray from rfl, HH.out.eb])
    | (refine wpList_load_mid rfl 28 (.tmp 1) rfl b1 0 rfl T _ (blkR HH.out.kb) Try.underlying28 rfl HI.out ?_)
    | (refine wpList_allocToS rfl 28 rfl (some 4) rfl b4 HH.out.e4 (.agg Z.toArray) HZ.out ?_; rw [show (Value.agg Z.toArray).cells = Z.toArray from rfl])
    | (refine wpList_store_rowTo rfl 28 (.tmp 4) (.tmp 6) rfl rfl b4 T.toArray rfl rfl 28 _ (by rw [← HH.out.e4]; exact heap_alloc_new wb _) (by rw [HI.out]; simp) (by simp [HZL.out]) HO.out ?_; rw [← HH.out.e4, World.setRow_alloc_new, HH.out.e4, HH.out.ed]))
  cases q0
  · go_upto_region 32 with (first
        | (go_at_call_of 18 (Value.int .i64 255); refine (fit_newB 255 [(l13 : Int)] _ _ rfl 1 rfl (by decide) HQ0.out).mono ?_; rintro e w2 ⟨rfl, rfl⟩))
    obtain ⟨u, hu⟩ : ∃ u, u = ((wd.alloc (.cells #[.int .i64 (l13 : Int)] 3)).setCell ⟨b4, 13, none⟩ (.slice none 0 0)) := ⟨_, rfl⟩
    rw [← hu]
    have hT2' : [.int .i64 19, .int .i64 n1, .int .i64 n2, .int .i64 n3, .int .i64 n4, .int .i64 n5, .int .i64 n6, .int .i64 n7, .int .i64 n8, .int .i64 n9, .int .i64 n10, .int .i64 n11, .slice a12 l12 c12, .slice none 0 0, .slice a14 l14 c14, .slice a15 l15 c15, .slice a16 l16 c16, .slice a17 l17 c17] = (T.set 13 (.slice none 0 0)) := by rw [HT.out]; try rfl
    obtain ⟨T2, hT2⟩ : ∃ T2 : List Value, T2 = (T.set 13 (.slice none 0 0)) := ⟨_, rfl⟩
    have hk4 : Blk u b4 28 T2 := by rw [hu, hT2]; exact ((HH.out.k4.alloc _).set_ 13 _)
    have hk3 : Blk u b3 28 Z := by rw [hu]; exact ((set_heap (by have := HH.out.n34; have := HH.out.n4; simp; omega) (by have := HH.out.n34; omega)).trans (HH.out.k3.alloc _))
    have hb4 : w.heap.size ≤ b4 := by have := HH.out.n34; have := HH.out.n13; have := HH.out.e1; omega
    have hbu : Below w.heap.size w u := by rw [hu]; exact ((HH.out.bel.alloc (by have := HH.out.bel.size; simp; omega) _).setCell hb4 _)
    rw [← hT2] at hT2'
    have HI2 : Hid ((Try.prog.info? 28).map (·.size) = some T2.length) := by show _ = _; rw [← hT2', HI.out, HT.out]; try rfl
    have HO2 : Hid (T2.toArray.all (·.oneCell') = true) := by show _ = _; rw [← hT2']; simp; repeat' (first | rfl | constructor)
    have HZ2 : Hid (Z.length = T2.length) := by show _ = _; rw [HZL.out, ← hT2', HT.out]; try rfl
    have HK4 := Lib.hid hk4; have HK3 := Lib.hid hk3; have HBU := Lib.hid hbu; have HT2 := Lib.hid hT2'
    have hb3 : w.heap.size ≤ b3 := by have := HH.out.n13; have := HH.out.e1; omega
    have HB3 := Lib.hid hb3
    clear hT2 hu hk4 hk3 hbu hT2' hb4 hb3 x0_0 x0_13 x1_13 f4_1 g1_13
    refine wp_region_still_tail 3 (by kernel_rfl) (by kernel_rfl) ?_
    simp only [List.take_succ_cons, List.take_zero, List.drop_succ_cons, List.drop_zero]
    still_step
    refine wpStill_step (fun K hK => ?_)
    refine still_loadAt (by rfl) 28 (.tmp 4) rfl b4 0 rfl T2 _ (blkR HK4.out) Try.underlying28 rfl HI2.out (hK _ ?_)
    clear hK K
    still_step
    refine wpStill_nil ?_
    change wpList _ _ _ _ _ u.drew
    refine wpList_store_rowTo rfl 28 (.tmp 3) (.tmp 211) rfl rfl b3 T2.toArray rfl rfl 28 Z.toArray HK3.out (by rw [HI2.out]; simp) (by simp [HZ2.out]) HO2.out ?_
    go_wp2_with fail
    have hfin : (u.drew.setRow b3 T2.toArray).heap[b3]? = some (.cells T2.toArray 28 (0, 0)) := setRow_heap u.drew _ _ _ _ _ HK3.out
    refine bodyPost_ret (results_tmp_cell rfl _ (u.drew.setRow b3 T2.toArray) b3 28 T2.toArray (0, 0) _ rfl hfin Try.underlying28 rfl (by rw [HI2.out]; simp)) rfl ⟨?_, ?_⟩
    · rw [HQ0.out, HT2.out]; first | rfl | simp
    · exact below_setRow HBU.out.drew HB3.out _
  · skip
    cases q1
    · go_upto_region 32 with (first
          | (go_at_call_of 18 (Value.int .i64 255); refine (fit_newB 255 [(l13 : Int)] _ _ rfl 1 rfl (by decide) HQ0.out).mono ?_; rintro e w2 ⟨rfl, rfl⟩)
          | (go_at_call_of 18 (Value.int .i64 65535); refine (fit_rowB 65535 a13 c13 r13 _ l13 (HR13.out _ ((Below.refl _ wd).alloc (by simp) _)) HQ1.out).mono ?_; rintro e w2 ⟨rfl, rfl⟩))
      obtain ⟨u, hu⟩ : ∃ u, u = ((wd.alloc (.cells #[.int .i64 (l13 : Int)] 3)).setCell ⟨b4, 13, none⟩ (.slice none 0 0)) := ⟨_, rfl⟩
      rw [← hu]
      have hT2' : [.int .i64 19, .int .i64 n1, .int .i64 n2, .int .i64 n3, .int .i64 n4, .int .i64 n5, .int .i64 n6, .int .i64 n7, .int .i64 n8, .int .i64 n9, .int .i64 n10, .int .i64 n11, .slice a12 l12 c12, .slice none 0 0, .slice a14 l14 c14, .slice a15 l15 c15, .slice a16 l16 c16, .slice a17 l17 c17] = (T.set 13 (.slice none 0 0)) := by rw [HT.out]; try rfl
      obtain ⟨T2, hT2⟩ : ∃ T2 : List Value, T2 = (T.set 13 (.slice none 0 0)) := ⟨_, rfl⟩
      have hk4 : Blk u b4 28 T2 := by rw [hu, hT2]; exact ((HH.out.k4.alloc _).set_ 13 _)
      have hk3 : Blk u b3 28 Z := by rw [hu]; exact ((set_heap (by have := HH.out.n34; have := HH.out.n4; simp; omega) (by have := HH.out.n34; omega)).trans (HH.out.k3.alloc _))
      have hb4 : w.heap.size ≤ b4 := by have := HH.out.n34; have := HH.out.n13; have := HH.out.e1; omega
      have hbu : Below w.heap.size w u := by rw [hu]; exact ((HH.out.bel.alloc (by have := HH.out.bel.size; simp; omega) _).setCell hb4 _)
      rw [← hT2] at hT2'
      have HI2 : Hid ((Try.prog.info? 28).map (·.size) = some T2.length) := by show _ = _; rw [← hT2', HI.out, HT.out]; try rfl
      have HO2 : Hid (T2.toArray.all (·.oneCell') = true) := by show _ = _; rw [← hT2']; simp; repeat' (first | rfl | constructor)
      have HZ2 : Hid (Z.length = T2.length) := by show _ = _; rw [HZL.out, ← hT2', HT.out]; try rfl
      have HK4 := Lib.hid hk4; have HK3 := Lib.hid hk3; have HBU := Lib.hid hbu; have HT2 := Lib.hid hT2'
      have hb3 : w.heap.size ≤ b3 := by have := HH.out.n13; have := HH.out.e1; omega
      have HB3 := Lib.hid hb3
      clear hT2 hu hk4 hk3 hbu hT2' hb4 hb3 x0_0 x0_13 x1_13 f4_1 g1_13
      refine wp_region_still_tail 3 (by kernel_rfl) (by kernel_rfl) ?_
      simp only [List.take_succ_cons, List.take_zero, List.drop_succ_cons, List.drop_zero]
      still_step
      refine wpStill_step (fun K hK => ?_)
      refine still_loadAt (by rfl) 28 (.tmp 4) rfl b4 0 rfl T2 _ (blkR HK4.out) Try.underlying28 rfl HI2.out (hK _ ?_)
      clear hK K
      still_step
      refine wpStill_nil ?_
      change wpList _ _ _ _ _ u.drew
      refine wpList_store_rowTo rfl 28 (.tmp 3) (.tmp 211) rfl rfl b3 T2.toArray rfl rfl 28 Z.toArray HK3.out (by rw [HI2.out]; simp) (by simp [HZ2.out]) HO2.out ?_
      go_wp2_with fail
      have hfin : (u.drew.setRow b3 T2.toArray).heap[b3]? = some (.cells T2.toArray 28 (0, 0)) := setRow_heap u.drew _ _ _ _ _ HK3.out
      refine bodyPost_ret (results_tmp_cell rfl _ (u.drew.setRow b3 T2.toArray) b3 28 T2.toArray (0, 0) _ rfl hfin Try.underlying28 rfl (by rw [HI2.out]; simp)) rfl ⟨?_, ?_⟩
      · rw [HQ0.out, HQ1.out, HT2.out]; first | rfl | simp
      · exact below_setRow HBU.out.drew HB3.out _
    · skip
      go_upto_region 32 with (first
          | (go_at_call_of 18 (Value.int .i64 255); refine (fit_newB 255 [(l13 : Int)] _ _ rfl 1 rfl (by decide) HQ0.out).mono ?_; rintro e w2 ⟨rfl, rfl⟩)
          | (go_at_call_of 18 (Value.int .i64 65535); refine (fit_rowB 65535 a13 c13 r13 _ l13 (HR13.out _ ((Below.refl _ wd).alloc (by simp) _)) HQ1.out).mono ?_; rintro e w2 ⟨rfl, rfl⟩))
      obtain ⟨u, hu⟩ : ∃ u, u = ((wd.alloc (.cells #[.int .i64 (l13 : Int)] 3)).setCell ⟨b4, 13, none⟩ (.slice none 0 0)) := ⟨_, rfl⟩
      rw [← hu]
      have hT2' : [.int .i64 19, .int .i64 n1, .int .i64 n2, .int .i64 n3, .int .i64 n4, .int .i64 n5, .int .i64 n6, .int .i64 n7, .int .i64 n8, .int .i64 n9, .int .i64 n10, .int .i64 n11, .slice a12 l12 c12, .slice none 0 0, .slice a14 l14 c14, .slice a15 l15 c15, .slice a16 l16 c16, .slice a17 l17 c17] = (T.set 13 (.slice none 0 0)) := by rw [HT.out]; try rfl
      obtain ⟨T2, hT2⟩ : ∃ T2 : List Value, T2 = (T.set 13 (.slice none 0 0)) := ⟨_, rfl⟩
      have hk4 : Blk u b4 28 T2 := by rw [hu, hT2]; exact ((HH.out.k4.alloc _).set_ 13 _)
      have hk3 : Blk u b3 28 Z := by rw [hu]; exact ((set_heap (by have := HH.out.n34; have := HH.out.n4; simp; omega) (by have := HH.out.n34; omega)).trans (HH.out.k3.alloc _))
      have hb4 : w.heap.size ≤ b4 := by have := HH.out.n34; have := HH.out.n13; have := HH.out.e1; omega
      have hbu : Below w.heap.size w u := by rw [hu]; exact ((HH.out.bel.alloc (by have := HH.out.bel.size; simp; omega) _).setCell hb4 _)
      rw [← hT2] at hT2'
      have HI2 : Hid ((Try.prog.info? 28).map (·.size) = some T2.length) := by show _ = _; rw [← hT2', HI.out, HT.out]; try rfl
      have HO2 : Hid (T2.toArray.all (·.oneCell') = true) := by show _ = _; rw [← hT2']; simp; repeat' (first | rfl | constructor)
      have HZ2 : Hid (Z.length = T2.length) := by show _ = _; rw [HZL.out, ← hT2', HT.out]; try rfl
      have HK4 := Lib.hid hk4; have HK3 := Lib.hid hk3; have HBU := Lib.hid hbu; have HT2 := Lib.hid hT2'
      have hb3 : w.heap.size ≤ b3 := by have := HH.out.n13; have := HH.out.e1; omega
      have HB3 := Lib.hid hb3
      clear hT2 hu hk4 hk3 hbu hT2' hb4 hb3 x0_0 x0_13 x1_13 f4_1 g1_13
      refine wp_region_still_tail 3 (by kernel_rfl) (by kernel_rfl) ?_
      simp only [List.take_succ_cons, List.take_zero, List.drop_succ_cons, List.drop_zero]
      still_step
      refine wpStill_step (fun K hK => ?_)
      refine still_loadAt (by rfl) 28 (.tmp 4) rfl b4 0 rfl T2 _ (blkR HK4.out) Try.underlying28 rfl HI2.out (hK _ ?_)
      clear hK K
      still_step
      refine wpStill_nil ?_
      change wpList _ _ _ _ _ u.drew
      refine wpList_store_rowTo rfl 28 (.tmp 3) (.tmp 211) rfl rfl b3 T2.toArray rfl rfl 28 Z.toArray HK3.out (by rw [HI2.out]; simp) (by simp [HZ2.out]) HO2.out ?_
      go_wp2_with fail
      have hfin : (u.drew.setRow b3 T2.toArray).heap[b3]? = some (.cells T2.toArray 28 (0, 0)) := setRow_heap u.drew _ _ _ _ _ HK3.out
      refine bodyPost_ret (results_tmp_cell rfl _ (u.drew.setRow b3 T2.toArray) b3 28 T2.toArray (0, 0) _ rfl hfin Try.underlying28 rfl (by rw [HI2.out]; simp)) rfl ⟨?_, ?_⟩
      · rw [HQ0.out, HQ1.out, HT2.out]; first | rfl | simp
      · exact below_setRow HBU.out.drew HB3.out _
set_option maxRecDepth 100000 in
set_option maxHeartbeats 16000000 in
theorem sp_other_38 (n1 n2 n3 n4 n5 n6 n7 n8 n9 n10 n11 : Int) (a12 a13 a14 a15 a16 a17 : Option Addr) (l12 l13 l14 l15 l16 l17 c12 c13 c14 c15 c16 c17 : Nat) (w : World) (r13 : List Int) (hv13 : RowV w .i64 (.slice a13 l13 c13) r13) :
    Calls Try.prog 40 #[.agg #[.int .i64 38, .int .i64 n1, .int .i64 n2, .int .i64 n3, .int .i64 n4, .int .i64 n5, .int .i64 n6, .int .i64 n7, .int .i64 n8, .int .i64 n9, .int .i64 n10, .int .i64 n11, .slice a12 l12 c12, .slice a13 l13 c13, .slice a14 l14 c14, .slice a15 l15 c15, .slice a16 l16 c16, .slice a17 l17 c17]] w
      (SndR (fitS 65535 [(l13 : Int)] && (stepS r13)) [.int .i64 38, .int .i64 n1, .int .i64 n2, .int .i64 n3, .int .i64 n4, .int .i64 n5, .int .i64 n6, .int .i64 n7, .int .i64 n8, .int .i64 n9, .int .i64 n10, .int .i64 n11, .slice a12 l12 c12, .slice none 0 0, .slice a14 l14 c14, .slice a15 l15 c15, .slice a16 l16 c16, .slice a17 l17 c17] w) := by
  obtain ⟨T, hT⟩ : ∃ T : List Value, T = [.int .i64 38, .int .i64 n1, .int .i64 n2, .int .i64 n3, .int .i64 n4, .int .i64 n5, .int .i64 n6, .int .i64 n7, .int .i64 n8, .int .i64 n9, .int .i64 n10, .int .i64 n11, .slice a12 l12 c12, .slice a13 l13 c13, .slice a14 l14 c14, .slice a15 l15 c15, .slice a16 l16 c16, .slice a17 l17 c17] := ⟨_, rfl⟩
  have hA : (#[.int .i64 38, .int .i64 n1, .int .i64 n2, .int .i64 n3, .int .i64 n4, .int .i64 n5, .int .i64 n6, .int .i64 n7, .int .i64 n8, .int .i64 n9, .int .i64 n10, .int .i64 n11, .slice a12 l12 c12, .slice a13 l13 c13, .slice a14 l14 c14, .slice a15 l15 c15, .slice a16 l16 c16, .slice a17 l17 c17] : Array Value) = T.toArray := by rw [hT]
  obtain ⟨Z, hZ⟩ : ∃ Z : List Value, Z = [.int .i64 0, .int .i64 0, .int .i64 0, .int .i64 0, .int .i64 0, .int .i64 0, .int .i64 0, .int .i64 0, .int .i64 0, .int .i64 0, .int .i64 0, .int .i64 0, .slice none 0 0, .slice none 0 0, .slice none 0 0, .slice none 0 0, .slice none 0 0, .slice none 0 0] := ⟨_, rfl⟩
  obtain ⟨wa, wb, wd, b1, b3, b4, H⟩ := laid3 w T Z
  have HH := Lib.hid H
  have hlen : T.length = 18 := by rw [hT]; rfl
  have HI : Hid ((Try.prog.info? 28).map (·.size) = some T.length) := by show _ = _; rw [hlen]; exact infoBlkS
  have HO : Hid (T.toArray.all (·.oneCell') = true) := by show _ = _; rw [hT]; simp; repeat' (first | rfl | constructor)
  have HZ : Hid ((Try.prog.info? 28).bind (·.zero) = some (.agg Z.toArray)) := by show _ = _; rw [hZ]; kernel_rfl
  have HZL : Hid (Z.length = T.length) := by show _ = _; rw [hZ, hT]; rfl
  have HR13 := Lib.hid (fun u (hu : Below wd.heap.size wd u) => hv13.below (H.bel.trans (hu.mono H.bel.size)))
  have x0_0 : wd.cell? ⟨b1, 0, none⟩ = some (.int .i64 38) := by have := H.k1; rw [hT] at this; exact this.cell 0
  have x0_13 : wd.cell? ⟨b1, 13, none⟩ = some (.slice a13 l13 c13) := by have := H.k1; rw [hT] at this; exact this.cell 13
  have x1_13 : ∀ (p : Obj), (wd.alloc p).cell? ⟨b1, 13, none⟩ = some (.slice a13 l13 c13) := fun p => by have := H.k1; rw [hT] at this; exact (this.alloc _).cell 13
  have f4_1 : ∀ (p : Obj), ∀ i : Nat, (wd.alloc p).frozen? ⟨b4, i, none⟩ = false := fun p => fun i => ((H.k4.alloc _)).frozen i
  have g1_13 : ∀ (p : Obj), (wd.alloc p).cell? ⟨b4, 13, none⟩ = some (.slice a13 l13 c13) := fun p => by have := H.k4; rw [hT] at this; exact (this.alloc _).cell 13
  obtain ⟨q0, hq0⟩ : ∃ q, fitS 65535 [(l13 : Int)] = q := ⟨_, rfl⟩
  have HQ0 := Lib.hid hq0
  clear hq0
  obtain ⟨q1, hq1⟩ : ∃ q, stepS r13 = q := ⟨_, rfl⟩
  have HQ1 := Lib.hid hq1
  clear hq1
  have HT := Lib.hid hT
  rw [hA]
  clear hT hA H hlen hZ
  go_enter Try.func40, Try.ntmps40
  go_upto_region 2 with (first
    | (refine Great.wpList_boxTo rfl 28 (.tmp 0) rfl (some 1) rfl b1 HH.out.e1 T.toArray rfl ?_; rw [HH.out.ea])
    | (refine wpList_allocToS rfl 28 rfl (some 3) rfl b3 HH.out.e3 (.agg Z.toArray) HZ.out ?_; rw [show (Value.agg Z.toArray).cells = Z.toArray from rfl, HH.out.eb])
    | (refine wpList_load_mid rfl 28 (.tmp 1) rfl b1 0 rfl T _ (blkR HH.out.kb) Try.underlying28 rfl HI.out ?_)
    | (refine wpList_allocToS rfl 28 rfl (some 4) rfl b4 HH.out.e4 (.agg Z.toArray) HZ.out ?_; rw [show (Value.agg Z.toArray).cells = Z.toArray from rfl])
    | (refine wpList_store_rowTo rfl 28 (.tmp 4) (.tmp 6) rfl rfl b4 T.toArray rfl rfl 28 _ (by rw [← HH.out.e4]; exact heap_alloc_new wb _) (by rw [HI.out]; simp) (by simp [HZL.out]) HO.out ?_; rw [← HH.out.e4, World.setRow_alloc_new, HH.out.e4, HH.out.ed]))
  cases q0
  · go_upto_region 45 with (first
        | (go_at_call_of 18 (Value.int .i64 65535); refine (fit_newB 65535 [(l13 : Int)] _ _ rfl 1 rfl (by decide) HQ0.out).mono ?_; rintro e w2 ⟨rfl, rfl⟩))
    obtain ⟨u, hu⟩ : ∃ u, u = ((wd.alloc (.cells #[.int .i64 (l13 : Int)] 3)).setCell ⟨b4, 13, none⟩ (.slice none 0 0)) := ⟨_, rfl⟩
    rw [← hu]
    have hT2' : [.int .i64 38, .int .i64 n1, .int .i64 n2, .int .i64 n3, .int .i64 n4, .int .i64 n5, .int .i64 n6, .int .i64 n7, .int .i64 n8, .int .i64 n9, .int .i64 n10, .int .i64 n11, .slice a12 l12 c12, .slice none 0 0, .slice a14 l14 c14, .slice a15 l15 c15, .slice a16 l16 c16, .slice a17 l17 c17] = (T.set 13 (.slice none 0 0)) := by rw [HT.out]; try rfl
    obtain ⟨T2, hT2⟩ : ∃ T2 : List Value, T2 = (T.set 13 (.slice none 0 0)) := ⟨_, rfl⟩
    have hk4 : Blk u b4 28 T2 := by rw [hu, hT2]; exact ((HH.out.k4.alloc _).set_ 13 _)
    have hk3 : Blk u b3 28 Z := by rw [hu]; exact ((set_heap (by have := HH.out.n34; have := HH.out.n4; simp; omega) (by have := HH.out.n34; omega)).trans (HH.out.k3.alloc _))
    have hb4 : w.heap.size ≤ b4 := by have := HH.out.n34; have := HH.out.n13; have := HH.out.e1; omega
    have hbu : Below w.heap.size w u := by rw [hu]; exact ((HH.out.bel.alloc (by have := HH.out.bel.size; simp; omega) _).setCell hb4 _)
    rw [← hT2] at hT2'
    have HI2 : Hid ((Try.prog.info? 28).map (·.size) = some T2.length) := by show _ = _; rw [← hT2', HI.out, HT.out]; try rfl
    have HO2 : Hid (T2.toArray.all (·.oneCell') = true) := by show _ = _; rw [← hT2']; simp; repeat' (first | rfl | constructor)
    have HZ2 : Hid (Z.length = T2.length) := by show _ = _; rw [HZL.out, ← hT2', HT.out]; try rfl
    have HK4 := Lib.hid hk4; have HK3 := Lib.hid hk3; have HBU := Lib.hid hbu; have HT2 := Lib.hid hT2'
    have hb3 : w.heap.size ≤ b3 := by have := HH.out.n13; have := HH.out.e1; omega
    have HB3 := Lib.hid hb3
    clear hT2 hu hk4 hk3 hbu hT2' hb4 hb3 x0_0 x0_13 x1_13 f4_1 g1_13
    refine wp_region_still_tail 3 (by kernel_rfl) (by kernel_rfl) ?_
    simp only [List.take_succ_cons, List.take_zero, List.drop_succ_cons, List.drop_zero]
    still_step
    refine wpStill_step (fun K hK => ?_)
    refine still_loadAt (by rfl) 28 (.tmp 4) rfl b4 0 rfl T2 _ (blkR HK4.out) Try.underlying28 rfl HI2.out (hK _ ?_)
    clear hK K
    still_step
    refine wpStill_nil ?_
    change wpList _ _ _ _ _ u.drew
    refine wpList_store_rowTo rfl 28 (.tmp 3) (.tmp 159) rfl rfl b3 T2.toArray rfl rfl 28 Z.toArray HK3.out (by rw [HI2.out]; simp) (by simp [HZ2.out]) HO2.out ?_
    go_wp2_with fail
    have hfin : (u.drew.setRow b3 T2.toArray).heap[b3]? = some (.cells T2.toArray 28 (0, 0)) := setRow_heap u.drew _ _ _ _ _ HK3.out
    refine bodyPost_ret (results_tmp_cell rfl _ (u.drew.setRow b3 T2.toArray) b3 28 T2.toArray (0, 0) _ rfl hfin Try.underlying28 rfl (by rw [HI2.out]; simp)) rfl ⟨?_, ?_⟩
    · rw [HQ0.out, HT2.out]; first | rfl | simp
    · exact below_setRow HBU.out.drew HB3.out _
  · skip
    cases q1
    · go_upto_region 45 with (first
          | (go_at_call_of 18 (Value.int .i64 65535); refine (fit_newB 65535 [(l13 : Int)] _ _ rfl 1 rfl (by decide) HQ0.out).mono ?_; rintro e w2 ⟨rfl, rfl⟩)
          | (go_at_call 72; refine (steps_rowB a13 c13 r13 _ l13 (HR13.out _ ((Below.refl _ wd).alloc (by simp) _)) HQ1.out).mono ?_; rintro e w2 ⟨rfl, rfl⟩))
      obtain ⟨u, hu⟩ : ∃ u, u = ((wd.alloc (.cells #[.int .i64 (l13 : Int)] 3)).setCell ⟨b4, 13, none⟩ (.slice none 0 0)) := ⟨_, rfl⟩
      rw [← hu]
      have hT2' : [.int .i64 38, .int .i64 n1, .int .i64 n2, .int .i64 n3, .int .i64 n4, .int .i64 n5, .int .i64 n6, .int .i64 n7, .int .i64 n8, .int .i64 n9, .int .i64 n10, .int .i64 n11, .slice a12 l12 c12, .slice none 0 0, .slice a14 l14 c14, .slice a15 l15 c15, .slice a16 l16 c16, .slice a17 l17 c17] = (T.set 13 (.slice none 0 0)) := by rw [HT.out]; try rfl
      obtain ⟨T2, hT2⟩ : ∃ T2 : List Value, T2 = (T.set 13 (.slice none 0 0)) := ⟨_, rfl⟩
      have hk4 : Blk u b4 28 T2 := by rw [hu, hT2]; exact ((HH.out.k4.alloc _).set_ 13 _)
      have hk3 : Blk u b3 28 Z := by rw [hu]; exact ((set_heap (by have := HH.out.n34; have := HH.out.n4; simp; omega) (by have := HH.out.n34; omega)).trans (HH.out.k3.alloc _))
      have hb4 : w.heap.size ≤ b4 := by have := HH.out.n34; have := HH.out.n13; have := HH.out.e1; omega
      have hbu : Below w.heap.size w u := by rw [hu]; exact ((HH.out.bel.alloc (by have := HH.out.bel.size; simp; omega) _).setCell hb4 _)
      rw [← hT2] at hT2'
      have HI2 : Hid ((Try.prog.info? 28).map (·.size) = some T2.length) := by show _ = _; rw [← hT2', HI.out, HT.out]; try rfl
      have HO2 : Hid (T2.toArray.all (·.oneCell') = true) := by show _ = _; rw [← hT2']; simp; repeat' (first | rfl | constructor)
      have HZ2 : Hid (Z.length = T2.length) := by show _ = _; rw [HZL.out, ← hT2', HT.out]; try rfl
      have HK4 := Lib.hid hk4; have HK3 := Lib.hid hk3; have HBU := Lib.hid hbu; have HT2 := Lib.hid hT2'
      have hb3 : w.heap.size ≤ b3 := by have := HH.out.n13; have := HH.out.e1; omega
      have HB3 := Lib.hid hb3
      clear hT2 hu hk4 hk3 hbu hT2' hb4 hb3 x0_0 x0_13 x1_13 f4_1 g1_13
      refine wp_region_still_tail 3 (by kernel_rfl) (by kernel_rfl) ?_
      simp only [List.take_succ_cons, List.take_zero, List.drop_succ_cons, List.drop_zero]
      still_step
      refine wpStill_step (fun K hK => ?_)
      refine still_loadAt (by rfl) 28 (.tmp 4) rfl b4 0 rfl T2 _ (blkR HK4.out) Try.underlying28 rfl HI2.out (hK _ ?_)
      clear hK K
      still_step
      refine wpStill_nil ?_
      change wpList _ _ _ _ _ u.drew
      refine wpList_store_rowTo rfl 28 (.tmp 3) (.tmp 159) rfl rfl b3 T2.toArray rfl rfl 28 Z.toArray HK3.out (by rw [HI2.out]; simp) (by simp [HZ2.out]) HO2.out ?_
      go_wp2_with fail
      have hfin : (u.drew.setRow b3 T2.toArray).heap[b3]? = some (.cells T2.toArray 28 (0, 0)) := setRow_heap u.drew _ _ _ _ _ HK3.out
      refine bodyPost_ret (results_tmp_cell rfl _ (u.drew.setRow b3 T2.toArray) b3 28 T2.toArray (0, 0) _ rfl hfin Try.underlying28 rfl (by rw [HI2.out]; simp)) rfl ⟨?_, ?_⟩
      · rw [HQ0.out, HQ1.out, HT2.out]; first | rfl | simp
      · exact below_setRow HBU.out.drew HB3.out _
    · skip
      go_upto_region 45 with (first
          | (go_at_call_of 18 (Value.int .i64 65535); refine (fit_newB 65535 [(l13 : Int)] _ _ rfl 1 rfl (by decide) HQ0.out).mono ?_; rintro e w2 ⟨rfl, rfl⟩)
          | (go_at_call 72; refine (steps_rowB a13 c13 r13 _ l13 (HR13.out _ ((Below.refl _ wd).alloc (by simp) _)) HQ1.out).mono ?_; rintro e w2 ⟨rfl, rfl⟩))
      obtain ⟨u, hu⟩ : ∃ u, u = ((wd.alloc (.cells #[.int .i64 (l13 : Int)] 3)).setCell ⟨b4, 13, none⟩ (.slice none 0 0)) := ⟨_, rfl⟩
      rw [← hu]
      have hT2' : [.int .i64 38, .int .i64 n1, .int .i64 n2, .int .i64 n3, .int .i64 n4, .int .i64 n5, .int .i64 n6, .int .i64 n7, .int .i64 n8, .int .i64 n9, .int .i64 n10, .int .i64 n11, .slice a12 l12 c12, .slice none 0 0, .slice a14 l14 c14, .slice a15 l15 c15, .slice a16 l16 c16, .slice a17 l17 c17] = (T.set 13 (.slice none 0 0)) := by rw [HT.out]; try rfl
      obtain ⟨T2, hT2⟩ : ∃ T2 : List Value, T2 = (T.set 13 (.slice none 0 0)) := ⟨_, rfl⟩
      have hk4 : Blk u b4 28 T2 := by rw [hu, hT2]; exact ((HH.out.k4.alloc _).set_ 13 _)
      have hk3 : Blk u b3 28 Z := by rw [hu]; exact ((set_heap (by have := HH.out.n34; have := HH.out.n4; simp; omega) (by have := HH.out.n34; omega)).trans (HH.out.k3.alloc _))
      have hb4 : w.heap.size ≤ b4 := by have := HH.out.n34; have := HH.out.n13; have := HH.out.e1; omega
      have hbu : Below w.heap.size w u := by rw [hu]; exact ((HH.out.bel.alloc (by have := HH.out.bel.size; simp; omega) _).setCell hb4 _)
      rw [← hT2] at hT2'
      have HI2 : Hid ((Try.prog.info? 28).map (·.size) = some T2.length) := by show _ = _; rw [← hT2', HI.out, HT.out]; try rfl
      have HO2 : Hid (T2.toArray.all (·.oneCell') = true) := by show _ = _; rw [← hT2']; simp; repeat' (first | rfl | constructor)
      have HZ2 : Hid (Z.length = T2.length) := by show _ = _; rw [HZL.out, ← hT2', HT.out]; try rfl
      have HK4 := Lib.hid hk4; have HK3 := Lib.hid hk3; have HBU := Lib.hid hbu; have HT2 := Lib.hid hT2'
      have hb3 : w.heap.size ≤ b3 := by have := HH.out.n13; have := HH.out.e1; omega
      have HB3 := Lib.hid hb3
      clear hT2 hu hk4 hk3 hbu hT2' hb4 hb3 x0_0 x0_13 x1_13 f4_1 g1_13
      refine wp_region_still_tail 3 (by kernel_rfl) (by kernel_rfl) ?_
      simp only [List.take_succ_cons, List.take_zero, List.drop_succ_cons, List.drop_zero]
      still_step
      refine wpStill_step (fun K hK => ?_)
      refine still_loadAt (by rfl) 28 (.tmp 4) rfl b4 0 rfl T2 _ (blkR HK4.out) Try.underlying28 rfl HI2.out (hK _ ?_)
      clear hK K
      still_step
      refine wpStill_nil ?_
      change wpList _ _ _ _ _ u.drew
      refine wpList_store_rowTo rfl 28 (.tmp 3) (.tmp 159) rfl rfl b3 T2.toArray rfl rfl 28 Z.toArray HK3.out (by rw [HI2.out]; simp) (by simp [HZ2.out]) HO2.out ?_
      go_wp2_with fail
      have hfin : (u.drew.setRow b3 T2.toArray).heap[b3]? = some (.cells T2.toArray 28 (0, 0)) := setRow_heap u.drew _ _ _ _ _ HK3.out
      refine bodyPost_ret (results_tmp_cell rfl _ (u.drew.setRow b3 T2.toArray) b3 28 T2.toArray (0, 0) _ rfl hfin Try.underlying28 rfl (by rw [HI2.out]; simp)) rfl ⟨?_, ?_⟩
      · rw [HQ0.out, HQ1.out, HT2.out]; first | rfl | simp
      · exact below_setRow HBU.out.drew HB3.out _
set_option maxRecDepth 100000 in
set_option maxHeartbeats 16000000 in
theorem sp_other_35 (n1 n2 n3 n4 n5 n6 n7 n8 n9 n10 n11 : Int) (a12 a13 a14 a15 a16 a17 : Option Addr) (l12 l13 l14 l15 l16 l17 c12 c13 c14 c15 c16 c17 : Nat) (w : World) (r13 : List Int) (hv13 : RowV w .i64 (.slice a13 l13 c13) r13) :
    Calls Try.prog 40 #[.agg #[.int .i64 35, .int .i64 n1, .int .i64 n2, .int .i64 n3, .int .i64 n4, .int .i64 n5, .int .i64 n6, .int .i64 n7, .int .i64 n8, .int .i64 n9, .int .i64 n10, .int .i64 n11, .slice a12 l12 c12, .slice a13 l13 c13, .slice a14 l14 c14, .slice a15 l15 c15, .slice a16 l16 c16, .slice a17 l17 c17]] w
      (SndR (decide ((l13 : Int) = 1) && (stepS r13)) [.int .i64 35, .int .i64 n1, .int .i64 n2, .int .i64 n3, .int .i64 n4, .int .i64 n5, .int .i64 n6, .int .i64 n7, .int .i64 n8, .int .i64 n9, .int .i64 n10, .int .i64 n11, .slice a12 l12 c12, .slice none 0 0, .slice a14 l14 c14, .slice a15 l15 c15, .slice a16 l16 c16, .slice a17 l17 c17] w) := by
  obtain ⟨T, hT⟩ : ∃ T : List Value, T = [.int .i64 35, .int .i64 n1, .int .i64 n2, .int .i64 n3, .int .i64 n4, .int .i64 n5, .int .i64 n6, .int .i64 n7, .int .i64 n8, .int .i64 n9, .int .i64 n10, .int .i64 n11, .slice a12 l12 c12, .slice a13 l13 c13, .slice a14 l14 c14, .slice a15 l15 c15, .slice a16 l16 c16, .slice a17 l17 c17] := ⟨_, rfl⟩
  have hA : (#[.int .i64 35, .int .i64 n1, .int .i64 n2, .int .i64 n3, .int .i64 n4, .int .i64 n5, .int .i64 n6, .int .i64 n7, .int .i64 n8, .int .i64 n9, .int .i64 n10, .int .i64 n11, .slice a12 l12 c12, .slice a13 l13 c13, .slice a14 l14 c14, .slice a15 l15 c15, .slice a16 l16 c16, .slice a17 l17 c17] : Array Value) = T.toArray := by rw [hT]
  obtain ⟨Z, hZ⟩ : ∃ Z : List Value, Z = [.int .i64 0, .int .i64 0, .int .i64 0, .int .i64 0, .int .i64 0, .int .i64 0, .int .i64 0, .int .i64 0, .int .i64 0, .int .i64 0, .int .i64 0, .int .i64 0, .slice none 0 0, .slice none 0 0, .slice none 0 0, .slice none 0 0, .slice none 0 0, .slice none 0 0] := ⟨_, rfl⟩
  obtain ⟨wa, wb, wd, b1, b3, b4, H⟩ := laid3 w T Z
  have HH := Lib.hid H
  have hlen : T.length = 18 := by rw [hT]; rfl
  have HI : Hid ((Try.prog.info? 28).map (·.size) = some T.length) := by show _ = _; rw [hlen]; exact infoBlkS
  have HO : Hid (T.toArray.all (·.oneCell') = true) := by show _ = _; rw [hT]; simp; repeat' (first | rfl | constructor)
  have HZ : Hid ((Try.prog.info? 28).bind (·.zero) = some (.agg Z.toArray)) := by show _ = _; rw [hZ]; kernel_rfl
  have HZL : Hid (Z.length = T.length) := by show _ = _; rw [hZ, hT]; rfl
  have HR13 := Lib.hid (fun u (hu : Below wd.heap.size wd u) => hv13.below (H.bel.trans (hu.mono H.bel.size)))
  have x0_0 : wd.cell? ⟨b1, 0, none⟩ = some (.int .i64 35) := by have := H.k1; rw [hT] at this; exact this.cell 0
  have x0_13 : wd.cell? ⟨b1, 13, none⟩ = some (.slice a13 l13 c13) := by have := H.k1; rw [hT] at this; exact this.cell 13
  have f4_0 : ∀ i : Nat, wd.frozen? ⟨b4, i, none⟩ = false := fun i => (H.k4).frozen i
  have g0_13 : wd.cell? ⟨b4, 13, none⟩ = some (.slice a13 l13 c13) := by have := H.k4; rw [hT] at this; exact this.cell 13
  obtain ⟨q0, hq0⟩ : ∃ q, decide ((l13 : Int) = 1) = q := ⟨_, rfl⟩
  have HQ0 := Lib.hid hq0
  clear hq0
  obtain ⟨q1, hq1⟩ : ∃ q, stepS r13 = q := ⟨_, rfl⟩
  have HQ1 := Lib.hid hq1
  clear hq1
  have HT := Lib.hid hT
  rw [hA]
  clear hT hA H hlen hZ
  go_enter Try.func40, Try.ntmps40
  go_upto_region 2 with (first
    | (refine Great.wpList_boxTo rfl 28 (.tmp 0) rfl (some 1) rfl b1 HH.out.e1 T.toArray rfl ?_; rw [HH.out.ea])
    | (refine wpList_allocToS rfl 28 rfl (some 3) rfl b3 HH.out.e3 (.agg Z.toArray) HZ.out ?_; rw [show (Value.agg Z.toArray).cells = Z.toArray from rfl, HH.out.eb])
    | (refine wpList_load_mid rfl 28 (.tmp 1) rfl b1 0 rfl T _ (blkR HH.out.kb) Try.underlying28 rfl HI.out ?_)
    | (refine wpList_allocToS rfl 28 rfl (some 4) rfl b4 HH.out.e4 (.agg Z.toArray) HZ.out ?_; rw [show (Value.agg Z.toArray).cells = Z.toArray from rfl])
    | (refine wpList_store_rowTo rfl 28 (.tmp 4) (.tmp 6) rfl rfl b4 T.toArray rfl rfl 28 _ (by rw [← HH.out.e4]; exact heap_alloc_new wb _) (by rw [HI.out]; simp) (by simp [HZL.out]) HO.out ?_; rw [← HH.out.e4, World.setRow_alloc_new, HH.out.e4, HH.out.ed]))
  cases q0
  · have e0 : ((l13 : Int) == 1) = false := by have h := HQ0.out; simpa using h
    go_upto_region 45 with fail
    obtain ⟨u, hu⟩ : ∃ u, u = (wd.setCell ⟨b4, 13, none⟩ (.slice none 0 0)) := ⟨_, rfl⟩
    rw [← hu]
    have hT2' : [.int .i64 35, .int .i64 n1, .int .i64 n2, .int .i64 n3, .int .i64 n4, .int .i64 n5, .int .i64 n6, .int .i64 n7, .int .i64 n8, .int .i64 n9, .int .i64 n10, .int .i64 n11, .slice a12 l12 c12, .slice none 0 0, .slice a14 l14 c14, .slice a15 l15 c15, .slice a16 l16 c16, .slice a17 l17 c17] = (T.set 13 (.slice none 0 0)) := by rw [HT.out]; try rfl
    obtain ⟨T2, hT2⟩ : ∃ T2 : List Value, T2 = (T.set 13 (.slice none 0 0)) := ⟨_, rfl⟩
    have hk4 : Blk u b4 28 T2 := by rw [hu, hT2]; exact (HH.out.k4.set_ 13 _)
    have hk3 : Blk u b3 28 Z := by rw [hu]; exact ((set_heap (by have := HH.out.n34; have := HH.out.n4; simp; omega) (by have := HH.out.n34; omega)).trans HH.out.k3)
    have hb4 : w.heap.size ≤ b4 := by have := HH.out.n34; have := HH.out.n13; have := HH.out.e1; omega
    have hbu : Below w.heap.size w u := by rw [hu]; exact (HH.out.bel.setCell hb4 _)
    rw [← hT2] at hT2'
    have HI2 : Hid ((Try.prog.info? 28).map (·.size) = some T2.length) := by show _ = _; rw [← hT2', HI.out, HT.out]; try rfl
    have HO2 : Hid (T2.toArray.all (·.oneCell') = true) := by show _ = _; rw [← hT2']; simp; repeat' (first | rfl | constructor)
    have HZ2 : Hid (Z.length = T2.length) := by show _ = _; rw [HZL.out, ← hT2', HT.out]; try rfl
    have HK4 := Lib.hid hk4; have HK3 := Lib.hid hk3; have HBU := Lib.hid hbu; have HT2 := Lib.hid hT2'
    have hb3 : w.heap.size ≤ b3 := by have := HH.out.n13; have := HH.out.e1; omega
    have HB3 := Lib.hid hb3
    clear hT2 hu hk4 hk3 hbu hT2' hb4 hb3 x0_0 x0_13 f4_0 g0_13
    refine wp_region_still_tail 3 (by kernel_rfl) (by kernel_rfl) ?_
    simp only [List.take_succ_cons, List.take_zero, List.drop_succ_cons, List.drop_zero]
    still_step
    refine wpStill_step (fun K hK => ?_)
    refine still_loadAt (by rfl) 28 (.tmp 4) rfl b4 0 rfl T2 _ (blkR HK4.out) Try.underlying28 rfl HI2.out (hK _ ?_)
    clear hK K
    still_step
    refine wpStill_nil ?_
    change wpList _ _ _ _ _ u.drew
    refine wpList_store_rowTo rfl 28 (.tmp 3) (.tmp 159) rfl rfl b3 T2.toArray rfl rfl 28 Z.toArray HK3.out (by rw [HI2.out]; simp) (by simp [HZ2.out]) HO2.out ?_
    go_wp2_with fail
    have hfin : (u.drew.setRow b3 T2.toArray).heap[b3]? = some (.cells T2.toArray 28 (0, 0)) := setRow_heap u.drew _ _ _ _ _ HK3.out
    refine bodyPost_ret (results_tmp_cell rfl _ (u.drew.setRow b3 T2.toArray) b3 28 T2.toArray (0, 0) _ rfl hfin Try.underlying28 rfl (by rw [HI2.out]; simp)) rfl ⟨?_, ?_⟩
    · rw [HQ0.out, HT2.out]; first | rfl | simp
    · exact below_setRow HBU.out.drew HB3.out _
  · have e0 : ((l13 : Int) == 1) = true := by have h := HQ0.out; simpa using h
    cases q1
    · go_upto_region 45 with (first
          | (go_at_call 72; refine (steps_rowB a13 c13 r13 _ l13 (HR13.out _ (Below.refl _ wd)) HQ1.out).mono ?_; rintro e w2 ⟨rfl, rfl⟩))
      obtain ⟨u, hu⟩ : ∃ u, u = (wd.setCell ⟨b4, 13, none⟩ (.slice none 0 0)) := ⟨_, rfl⟩
      rw [← hu]
      have hT2' : [.int .i64 35, .int .i64 n1, .int .i64 n2, .int .i64 n3, .int .i64 n4, .int .i64 n5, .int .i64 n6, .int .i64 n7, .int .i64 n8, .int .i64 n9, .int .i64 n10, .int .i64 n11, .slice a12 l12 c12, .slice none 0 0, .slice a14 l14 c14, .slice a15 l15 c15, .slice a16 l16 c16, .slice a17 l17 c17] = (T.set 13 (.slice none 0 0)) := by rw [HT.out]; try rfl
      obtain ⟨T2, hT2⟩ : ∃ T2 : List Value, T2 = (T.set 13 (.slice none 0 0)) := ⟨_, rfl⟩
      have hk4 : Blk u b4 28 T2 := by rw [hu, hT2]; exact (HH.out.k4.set_ 13 _)
      have hk3 : Blk u b3 28 Z := by rw [hu]; exact ((set_heap (by have := HH.out.n34; have := HH.out.n4; simp; omega) (by have := HH.out.n34; omega)).trans HH.out.k3)
      have hb4 : w.heap.size ≤ b4 := by have := HH.out.n34; have := HH.out.n13; have := HH.out.e1; omega
      have hbu : Below w.heap.size w u := by rw [hu]; exact (HH.out.bel.setCell hb4 _)
      rw [← hT2] at hT2'
      have HI2 : Hid ((Try.prog.info? 28).map (·.size) = some T2.length) := by show _ = _; rw [← hT2', HI.out, HT.out]; try rfl
      have HO2 : Hid (T2.toArray.all (·.oneCell') = true) := by show _ = _; rw [← hT2']; simp; repeat' (first | rfl | constructor)
      have HZ2 : Hid (Z.length = T2.length) := by show _ = _; rw [HZL.out, ← hT2', HT.out]; try rfl
      have HK4 := Lib.hid hk4; have HK3 := Lib.hid hk3; have HBU := Lib.hid hbu; have HT2 := Lib.hid hT2'
      have hb3 : w.heap.size ≤ b3 := by have := HH.out.n13; have := HH.out.e1; omega
      have HB3 := Lib.hid hb3
      clear hT2 hu hk4 hk3 hbu hT2' hb4 hb3 x0_0 x0_13 f4_0 g0_13
      refine wp_region_still_tail 3 (by kernel_rfl) (by kernel_rfl) ?_
      simp only [List.take_succ_cons, List.take_zero, List.drop_succ_cons, List.drop_zero]
      still_step
      refine wpStill_step (fun K hK => ?_)
      refine still_loadAt (by rfl) 28 (.tmp 4) rfl b4 0 rfl T2 _ (blkR HK4.out) Try.underlying28 rfl HI2.out (hK _ ?_)
      clear hK K
      still_step
      refine wpStill_nil ?_
      change wpList _ _ _ _ _ u.drew
      refine wpList_store_rowTo rfl 28 (.tmp 3) (.tmp 159) rfl rfl b3 T2.toArray rfl rfl 28 Z.toArray HK3.out (by rw [HI2.out]; simp) (by simp [HZ2.out]) HO2.out ?_
      go_wp2_with fail
      have hfin : (u.drew.setRow b3 T2.toArray).heap[b3]? = some (.cells T2.toArray 28 (0, 0)) := setRow_heap u.drew _ _ _ _ _ HK3.out
      refine bodyPost_ret (results_tmp_cell rfl _ (u.drew.setRow b3 T2.toArray) b3 28 T2.toArray (0, 0) _ rfl hfin Try.underlying28 rfl (by rw [HI2.out]; simp)) rfl ⟨?_, ?_⟩
      · rw [HQ0.out, HQ1.out, HT2.out]; first | rfl | simp
      · exact below_setRow HBU.out.drew HB3.out _
    · skip
      go_upto_region 45 with (first
          | (go_at_call 72; refine (steps_rowB a13 c13 r13 _ l13 (HR13.out _ (Below.refl _ wd)) HQ1.out).mono ?_; rintro e w2 ⟨rfl, rfl⟩))
      obtain ⟨u, hu⟩ : ∃ u, u = (wd.setCell ⟨b4, 13, none⟩ (.slice none 0 0)) := ⟨_, rfl⟩
      rw [← hu]
      have hT2' : [.int .i64 35, .int .i64 n1, .int .i64 n2, .int .i64 n3, .int .i64 n4, .int .i64 n5, .int .i64 n6, .int .i64 n7, .int .i64 n8, .int .i64 n9, .int .i64 n10, .int .i64 n11, .slice a12 l12 c12, .slice none 0 0, .slice a14 l14 c14, .slice a15 l15 c15, .slice a16 l16 c16, .slice a17 l17 c17] = (T.set 13 (.slice none 0 0)) := by rw [HT.out]; try rfl
      obtain ⟨T2, hT2⟩ : ∃ T2 : List Value, T2 = (T.set 13 (.slice none 0 0)) := ⟨_, rfl⟩
      have hk4 : Blk u b4 28 T2 := by rw [hu, hT2]; exact (HH.out.k4.set_ 13 _)
      have hk3 : Blk u b3 28 Z := by rw [hu]; exact ((set_heap (by have := HH.out.n34; have := HH.out.n4; simp; omega) (by have := HH.out.n34; omega)).trans HH.out.k3)
      have hb4 : w.heap.size ≤ b4 := by have := HH.out.n34; have := HH.out.n13; have := HH.out.e1; omega
      have hbu : Below w.heap.size w u := by rw [hu]; exact (HH.out.bel.setCell hb4 _)
      rw [← hT2] at hT2'
      have HI2 : Hid ((Try.prog.info? 28).map (·.size) = some T2.length) := by show _ = _; rw [← hT2', HI.out, HT.out]; try rfl
      have HO2 : Hid (T2.toArray.all (·.oneCell') = true) := by show _ = _; rw [← hT2']; simp; repeat' (first | rfl | constructor)
      have HZ2 : Hid (Z.length = T2.length) := by show _ = _; rw [HZL.out, ← hT2', HT.out]; try rfl
      have HK4 := Lib.hid hk4; have HK3 := Lib.hid hk3; have HBU := Lib.hid hbu; have HT2 := Lib.hid hT2'
      have hb3 : w.heap.size ≤ b3 := by have := HH.out.n13; have := HH.out.e1; omega
      have HB3 := Lib.hid hb3
      clear hT2 hu hk4 hk3 hbu hT2' hb4 hb3 x0_0 x0_13 f4_0 g0_13
      refine wp_region_still_tail 3 (by kernel_rfl) (by kernel_rfl) ?_
      simp only [List.take_succ_cons, List.take_zero, List.drop_succ_cons, List.drop_zero]
      still_step
      refine wpStill_step (fun K hK => ?_)
      refine still_loadAt (by rfl) 28 (.tmp 4) rfl b4 0 rfl T2 _ (blkR HK4.out) Try.underlying28 rfl HI2.out (hK _ ?_)
      clear hK K
      still_step
      refine wpStill_nil ?_
      change wpList _ _ _ _ _ u.drew
      refine wpList_store_rowTo rfl 28 (.tmp 3) (.tmp 159) rfl rfl b3 T2.toArray rfl rfl 28 Z.toArray HK3.out (by rw [HI2.out]; simp) (by simp [HZ2.out]) HO2.out ?_
      go_wp2_with fail
      have hfin : (u.drew.setRow b3 T2.toArray).heap[b3]? = some (.cells T2.toArray 28 (0, 0)) := setRow_heap u.drew _ _ _ _ _ HK3.out
      refine bodyPost_ret (results_tmp_cell rfl _ (u.drew.setRow b3 T2.toArray) b3 28 T2.toArray (0, 0) _ rfl hfin Try.underlying28 rfl (by rw [HI2.out]; simp)) rfl ⟨?_, ?_⟩
      · rw [HQ0.out, HQ1.out, HT2.out]; first | rfl | simp
      · exact below_setRow HBU.out.drew HB3.out _
set_option maxRecDepth 100000 in
set_option maxHeartbeats 16000000 in
theorem sp_other_52 (n1 n2 n3 n4 n5 n6 n7 n8 n9 n10 n11 : Int) (a12 a13 a14 a15 a16 a17 : Option Addr) (l12 l13 l14 l15 l16 l17 c12 c13 c14 c15 c16 c17 : Nat) (w : World) (r13 : List Int) (hv13 : RowV w .i64 (.slice a13 l13 c13) r13) :
    Calls Try.prog 40 #[.agg #[.int .i64 52, .int .i64 n1, .int .i64 n2, .int .i64 n3, .int .i64 n4, .int .i64 n5, .int .i64 n6, .int .i64 n7, .int .i64 n8, .int .i64 n9, .int .i64 n10, .int .i64 n11, .slice a12 l12 c12, .slice a13 l13 c13, .slice a14 l14 c14, .slice a15 l15 c15, .slice a16 l16 c16, .slice a17 l17 c17]] w
      (SndR (decide ((l12 : Int) = 8)) [.int .i64 52, .int .i64 n1, .int .i64 n2, .int .i64 n3, .int .i64 n4, .int .i64 n5, .int .i64 n6, .int .i64 n7, .int .i64 n8, .int .i64 n9, .int .i64 n10, .int .i64 n11, .slice none 0 0, .slice a13 l13 c13, .slice a14 l14 c14, .slice a15 l15 c15, .slice a16 l16 c16, .slice a17 l17 c17] w) := by
  obtain ⟨T, hT⟩ : ∃ T : List Value, T = [.int .i64 52, .int .i64 n1, .int .i64 n2, .int .i64 n3, .int .i64 n4, .int .i64 n5, .int .i64 n6, .int .i64 n7, .int .i64 n8, .int .i64 n9, .int .i64 n10, .int .i64 n11, .slice a12 l12 c12, .slice a13 l13 c13, .slice a14 l14 c14, .slice a15 l15 c15, .slice a16 l16 c16, .slice a17 l17 c17] := ⟨_, rfl⟩
  have hA : (#[.int .i64 52, .int .i64 n1, .int .i64 n2, .int .i64 n3, .int .i64 n4, .int .i64 n5, .int .i64 n6, .int .i64 n7, .int .i64 n8, .int .i64 n9, .int .i64 n10, .int .i64 n11, .slice a12 l12 c12, .slice a13 l13 c13, .slice a14 l14 c14, .slice a15 l15 c15, .slice a16 l16 c16, .slice a17 l17 c17] : Array Value) = T.toArray := by rw [hT]
  obtain ⟨Z, hZ⟩ : ∃ Z : List Value, Z = [.int .i64 0, .int .i64 0, .int .i64 0, .int .i64 0, .int .i64 0, .int .i64 0, .int .i64 0, .int .i64 0, .int .i64 0, .int .i64 0, .int .i64 0, .int .i64 0, .slice none 0 0, .slice none 0 0, .slice none 0 0, .slice none 0 0, .slice none 0 0, .slice none 0 0] := ⟨_, rfl⟩
  obtain ⟨wa, wb, wd, b1, b3, b4, H⟩ := laid3 w T Z
  have HH := Lib.hid H
  have hlen : T.length = 18 := by rw [hT]; rfl
  have HI : Hid ((Try.prog.info? 28).map (·.size) = some T.length) := by show _ = _; rw [hlen]; exact infoBlkS
  have HO : Hid (T.toArray.all (·.oneCell') = true) := by show _ = _; rw [hT]; simp; repeat' (first | rfl | constructor)
  have HZ : Hid ((Try.prog.info? 28).bind (·.zero) = some (.agg Z.toArray)) := by show _ = _; rw [hZ]; kernel_rfl
  have HZL : Hid (Z.length = T.length) := by show _ = _; rw [hZ, hT]; rfl
  have HR13 := Lib.hid (fun u (hu : Below wd.heap.size wd u) => hv13.below (H.bel.trans (hu.mono H.bel.size)))
  have x0_0 : wd.cell? ⟨b1, 0, none⟩ = some (.int .i64 52) := by have := H.k1; rw [hT] at this; exact this.cell 0
  have x0_12 : wd.cell? ⟨b1, 12, none⟩ = some (.slice a12 l12 c12) := by have := H.k1; rw [hT] at this; exact this.cell 12
  have f4_0 : ∀ i : Nat, wd.frozen? ⟨b4, i, none⟩ = false := fun i => (H.k4).frozen i
  have g0_12 : wd.cell? ⟨b4, 12, none⟩ = some (.slice a12 l12 c12) := by have := H.k4; rw [hT] at this; exact this.cell 12
  obtain ⟨q0, hq0⟩ : ∃ q, decide ((l12 : Int) = 8) = q := ⟨_, rfl⟩
  have HQ0 := Lib.hid hq0
  clear hq0
  have HT := Lib.hid hT
  rw [hA]
  clear hT hA H hlen hZ
  go_enter Try.func40, Try.ntmps40
  go_upto_region 2 with (first
    | (refine Great.wpList_boxTo rfl 28 (.tmp 0) rfl (some 1) rfl b1 HH.out.e1 T.toArray rfl ?_; rw [HH.out.ea])
    | (refine wpList_allocToS rfl 28 rfl (some 3) rfl b3 HH.out.e3 (.agg Z.toArray) HZ.out ?_; rw [show (Value.agg Z.toArray).cells = Z.toArray from rfl, HH.out.eb])
    | (refine wpList_load_mid rfl 28 (.tmp 1) rfl b1 0 rfl T _ (blkR HH.out.kb) Try.underlying28 rfl HI.out ?_)
    | (refine wpList_allocToS rfl 28 rfl (some 4) rfl b4 HH.out.e4 (.agg Z.toArray) HZ.out ?_; rw [show (Value.agg Z.toArray).cells = Z.toArray from rfl])
    | (refine wpList_store_rowTo rfl 28 (.tmp 4) (.tmp 6) rfl rfl b4 T.toArray rfl rfl 28 _ (by rw [← HH.out.e4]; exact heap_alloc_new wb _) (by rw [HI.out]; simp) (by simp [HZL.out]) HO.out ?_; rw [← HH.out.e4, World.setRow_alloc_new, HH.out.e4, HH.out.ed]))
  cases q0
  · have e0 : ((l12 : Int) == 8) = false := by have h := HQ0.out; simpa using h
    go_upto_region 45 with fail
    obtain ⟨u, hu⟩ : ∃ u, u = (wd.setCell ⟨b4, 12, none⟩ (.slice none 0 0)) := ⟨_, rfl⟩
    rw [← hu]
    have hT2' : [.int .i64 52, .int .i64 n1, .int .i64 n2, .int .i64 n3, .int .i64 n4, .int .i64 n5, .int .i64 n6, .int .i64 n7, .int .i64 n8, .int .i64 n9, .int .i64 n10, .int .i64 n11, .slice none 0 0, .slice a13 l13 c13, .slice a14 l14 c14, .slice a15 l15 c15, .slice a16 l16 c16, .slice a17 l17 c17] = (T.set 12 (.slice none 0 0)) := by rw [HT.out]; try rfl
    obtain ⟨T2, hT2⟩ : ∃ T2 : List Value, T2 = (T.set 12 (.slice none 0 0)) := ⟨_, rfl⟩
    have hk4 : Blk u b4 28 T2 := by rw [hu, hT2]; exact (HH.out.k4.set_ 12 _)
    have hk3 : Blk u b3 28 Z := by rw [hu]; exact ((set_heap (by have := HH.out.n34; have := HH.out.n4; simp; omega) (by have := HH.out.n34; omega)).trans HH.out.k3)
    have hb4 : w.heap.size ≤ b4 := by have := HH.out.n34; have := HH.out.n13; have := HH.out.e1; omega
    have hbu : Below w.heap.size w u := by rw [hu]; exact (HH.out.bel.setCell hb4 _)
    rw [← hT2] at hT2'
    have HI2 : Hid ((Try.prog.info? 28).map (·.size) = some T2.length) := by show _ = _; rw [← hT2', HI.out, HT.out]; try rfl
    have HO2 : Hid (T2.toArray.all (·.oneCell') = true) := by show _ = _; rw [← hT2']; simp; repeat' (first | rfl | constructor)
    have HZ2 : Hid (Z.length = T2.length) := by show _ = _; rw [HZL.out, ← hT2', HT.out]; try rfl
    have HK4 := Lib.hid hk4; have HK3 := Lib.hid hk3; have HBU := Lib.hid hbu; have HT2 := Lib.hid hT2'
    have hb3 : w.heap.size ≤ b3 := by have := HH.out.n13; have := HH.out.e1; omega
    have HB3 := Lib.hid hb3
    clear hT2 hu hk4 hk3 hbu hT2' hb4 hb3 x0_0 x0_12 f4_0 g0_12
    refine wp_region_still_tail 3 (by kernel_rfl) (by kernel_rfl) ?_
    simp only [List.take_succ_cons, List.take_zero, List.drop_succ_cons, List.drop_zero]
    still_step
    refine wpStill_step (fun K hK => ?_)
    refine still_loadAt (by rfl) 28 (.tmp 4) rfl b4 0 rfl T2 _ (blkR HK4.out) Try.underlying28 rfl HI2.out (hK _ ?_)
    clear hK K
    still_step
    refine wpStill_nil ?_
    change wpList _ _ _ _ _ u.drew
    refine wpList_store_rowTo rfl 28 (.tmp 3) (.tmp 159) rfl rfl b3 T2.toArray rfl rfl 28 Z.toArray HK3.out (by rw [HI2.out]; simp) (by simp [HZ2.out]) HO2.out ?_
    go_wp2_with fail
    have hfin : (u.drew.setRow b3 T2.toArray).heap[b3]? = some (.cells T2.toArray 28 (0, 0)) := setRow_heap u.drew _ _ _ _ _ HK3.out
    refine bodyPost_ret (results_tmp_cell rfl _ (u.drew.setRow b3 T2.toArray) b3 28 T2.toArray (0, 0) _ rfl hfin Try.underlying28 rfl (by rw [HI2.out]; simp)) rfl ⟨?_, ?_⟩
    · rw [HQ0.out, HT2.out]; first | rfl | simp
    · exact below_setRow HBU.out.drew HB3.out _
  · have e0 : ((l12 : Int) == 8) = true := by have h := HQ0.out; simpa using h
    go_upto_region 45 with fail
    obtain ⟨u, hu⟩ : ∃ u, u = (wd.setCell ⟨b4, 12, none⟩ (.slice none 0 0)) := ⟨_, rfl⟩
    rw [← hu]
    have hT2' : [.int .i64 52, .int .i64 n1, .int .i64 n2, .int .i64 n3, .int .i64 n4, .int .i64 n5, .int .i64 n6, .int .i64 n7, .int .i64 n8, .int .i64 n9, .int .i64 n10, .int .i64 n11, .slice none 0 0, .slice a13 l13 c13, .slice a14 l14 c14, .slice a15 l15 c15, .slice a16 l16 c16, .slice a17 l17 c17] = (T.set 12 (.slice none 0 0)) := by rw [HT.out]; try rfl
    obtain ⟨T2, hT2⟩ : ∃ T2 : List Value, T2 = (T.set 12 (.slice none 0 0)) := ⟨_, rfl⟩
    have hk4 : Blk u b4 28 T2 := by rw [hu, hT2]; exact (HH.out.k4.set_ 12 _)
    have hk3 : Blk u b3 28 Z := by rw [hu]; exact ((set_heap (by have := HH.out.n34; have := HH.out.n4; simp; omega) (by have := HH.out.n34; omega)).trans HH.out.k3)
    have hb4 : w.heap.size ≤ b4 := by have := HH.out.n34; have := HH.out.n13; have := HH.out.e1; omega
    have hbu : Below w.heap.size w u := by rw [hu]; exact (HH.out.bel.setCell hb4 _)
    rw [← hT2] at hT2'
    have HI2 : Hid ((Try.prog.info? 28).map (·.size) = some T2.length) := by show _ = _; rw [← hT2', HI.out, HT.out]; try rfl
    have HO2 : Hid (T2.toArray.all (·.oneCell') = true) := by show _ = _; rw [← hT2']; simp; repeat' (first | rfl | constructor)
    have HZ2 : Hid (Z.length = T2.length) := by show _ = _; rw [HZL.out, ← hT2', HT.out]; try rfl
    have HK4 := Lib.hid hk4; have HK3 := Lib.hid hk3; have HBU := Lib.hid hbu; have HT2 := Lib.hid hT2'
    have hb3 : w.heap.size ≤ b3 := by have := HH.out.n13; have := HH.out.e1; omega
    have HB3 := Lib.hid hb3
    clear hT2 hu hk4 hk3 hbu hT2' hb4 hb3 x0_0 x0_12 f4_0 g0_12
    refine wp_region_still_tail 3 (by kernel_rfl) (by kernel_rfl) ?_
    simp only [List.take_succ_cons, List.take_zero, List.drop_succ_cons, List.drop_zero]
    still_step
    refine wpStill_step (fun K hK => ?_)
    refine still_loadAt (by rfl) 28 (.tmp 4) rfl b4 0 rfl T2 _ (blkR HK4.out) Try.underlying28 rfl HI2.out (hK _ ?_)
    clear hK K
    still_step
    refine wpStill_nil ?_
    change wpList _ _ _ _ _ u.drew
    refine wpList_store_rowTo rfl 28 (.tmp 3) (.tmp 159) rfl rfl b3 T2.toArray rfl rfl 28 Z.toArray HK3.out (by rw [HI2.out]; simp) (by simp [HZ2.out]) HO2.out ?_
    go_wp2_with fail
    have hfin : (u.drew.setRow b3 T2.toArray).heap[b3]? = some (.cells T2.toArray 28 (0, 0)) := setRow_heap u.drew _ _ _ _ _ HK3.out
    refine bodyPost_ret (results_tmp_cell rfl _ (u.drew.setRow b3 T2.toArray) b3 28 T2.toArray (0, 0) _ rfl hfin Try.underlying28 rfl (by rw [HI2.out]; simp)) rfl ⟨?_, ?_⟩
    · rw [HQ0.out, HT2.out]; first | rfl | simp
    · exact below_setRow HBU.out.drew HB3.out _
end Go.Proofs.Ytokidpajialgbaa
