/- spell.other, spell.sound: the branches with several tests. Written by gen_spv.py. -/
import Derived.Test.YtokidpajialgbaaQSpU
namespace Go.Proofs.Ytokidpajialgbaa
set_option linter.unusedSimpArgs false
set_option linter.unusedVariables false
open Go.RowKit
theorem blk_new1 (w : World) (a : Obj) (cs : List Value) : Blk ((w.alloc a).alloc (.cells cs.toArray 3)) (w.heap.size + 1) 3 cs := blk_alloc2_new w a _ cs
theorem blk_new2 (w : World) (a b : Obj) (cs : List Value) : Blk (((w.alloc a).alloc b).alloc (.cells cs.toArray 3)) (w.heap.size + 1 + 1) 3 cs := by simpa using blk_alloc2_new (w.alloc a) b 3 cs
theorem blk_new3 (w : World) (a b c : Obj) (cs : List Value) : Blk ((((w.alloc a).alloc b).alloc c).alloc (.cells cs.toArray 3)) (w.heap.size + 1 + 1 + 1) 3 cs := by simpa using blk_new2 (w.alloc a) b c cs
theorem blk_new4 (w : World) (a b c d : Obj) (cs : List Value) : Blk (((((w.alloc a).alloc b).alloc c).alloc d).alloc (.cells cs.toArray 3)) (w.heap.size + 1 + 1 + 1 + 1) 3 cs := by simpa using blk_new3 (w.alloc a) b c d cs
set_option maxRecDepth 100000 in
set_option maxHeartbeats 16000000 in
theorem sp_sound_21 (n1 n2 n3 n4 n5 n6 n7 n8 n9 n10 n11 : Int) (a12 a13 a14 a15 a16 a17 : Option Addr) (l12 l13 l14 l15 l16 l17 c12 c13 c14 c15 c16 c17 : Nat) (w : World) :
    Calls Try.prog 19 #[.agg #[.int .i64 21, .int .i64 n1, .int .i64 n2, .int .i64 n3, .int .i64 n4, .int .i64 n5, .int .i64 n6, .int .i64 n7, .int .i64 n8, .int .i64 n9, .int .i64 n10, .int .i64 n11, .slice a12 l12 c12, .slice a13 l13 c13, .slice a14 l14 c14, .slice a15 l15 c15, .slice a16 l16 c16, .slice a17 l17 c17]] w
      (SndR (fitS 65535 [n1, n10] && (fitS 255 [n9] && (fitS 16777215 [(l12 : Int)]))) [.int .i64 21, .int .i64 0, .int .i64 n2, .int .i64 n3, .int .i64 n4, .int .i64 n5, .int .i64 n6, .int .i64 n7, .int .i64 n8, .int .i64 0, .int .i64 0, .int .i64 n11, .slice none 0 0, .slice a13 l13 c13, .slice a14 l14 c14, .slice a15 l15 c15, .slice a16 l16 c16, .slice a17 l17 c17] w) := by
  obtain ⟨T, hT⟩ : ∃ T : List Value, T = [.int .i64 21, .int .i64 n1, .int .i64 n2, .int .i64 n3, .int .i64 n4, .int .i64 n5, .int .i64 n6, .int .i64 n7, .int .i64 n8, .int .i64 n9, .int .i64 n10, .int .i64 n11, .slice a12 l12 c12, .slice a13 l13 c13, .slice a14 l14 c14, .slice a15 l15 c15, .slice a16 l16 c16, .slice a17 l17 c17] := ⟨_, rfl⟩
  have hA : (#[.int .i64 21, .int .i64 n1, .int .i64 n2, .int .i64 n3, .int .i64 n4, .int .i64 n5, .int .i64 n6, .int .i64 n7, .int .i64 n8, .int .i64 n9, .int .i64 n10, .int .i64 n11, .slice a12 l12 c12, .slice a13 l13 c13, .slice a14 l14 c14, .slice a15 l15 c15, .slice a16 l16 c16, .slice a17 l17 c17] : Array Value) = T.toArray := by rw [hT]
  obtain ⟨Z, hZ⟩ : ∃ Z : List Value, Z = [.int .i64 0, .int .i64 0, .int .i64 0, .int .i64 0, .int .i64 0, .int .i64 0, .int .i64 0, .int .i64 0, .int .i64 0, .int .i64 0, .int .i64 0, .int .i64 0, .slice none 0 0, .slice none 0 0, .slice none 0 0, .slice none 0 0, .slice none 0 0, .slice none 0 0] := ⟨_, rfl⟩
  obtain ⟨wa, wb, wd, b1, b3, b4, H⟩ := laid3 w T Z
  have HH := Lib.hid H
  have hlen : T.length = 18 := by rw [hT]; rfl
  have HI : Hid ((Try.prog.info? 28).map (·.size) = some T.length) := by show _ = _; rw [hlen]; exact infoBlkS
  have HO : Hid (T.toArray.all (·.oneCell') = true) := by show _ = _; rw [hT]; simp; repeat' (first | rfl | constructor)
  have HZ : Hid ((Try.prog.info? 28).bind (·.zero) = some (.agg Z.toArray)) := by show _ = _; rw [hZ]; kernel_rfl
  have HZL : Hid (Z.length = T.length) := by show _ = _; rw [hZ, hT]; rfl
  have x0_0 : wd.cell? ⟨b1, 0, none⟩ = some (.int .i64 21) := by have := H.k1; rw [hT] at this; exact this.cell 0
  have x0_1 : wd.cell? ⟨b1, 1, none⟩ = some (.int .i64 n1) := by have := H.k1; rw [hT] at this; exact this.cell 1
  have x0_10 : wd.cell? ⟨b1, 10, none⟩ = some (.int .i64 n10) := by have := H.k1; rw [hT] at this; exact this.cell 10
  have x1_9 : ∀ (p : Obj), (wd.alloc p).cell? ⟨b1, 9, none⟩ = some (.int .i64 n9) := fun p => by have := H.k1; rw [hT] at this; exact (this.alloc _).cell 9
  have x2_12 : ∀ (p q : Obj), ((wd.alloc p).alloc q).cell? ⟨b1, 12, none⟩ = some (.slice a12 l12 c12) := fun p q => by have := H.k1; rw [hT] at this; exact ((this.alloc _).alloc _).cell 12
  have f4_1 : ∀ (p : Obj), ∀ i : Nat, (wd.alloc p).frozen? ⟨b4, i, none⟩ = false := fun p => fun i => ((H.k4.alloc _)).frozen i
  have g1_1 : ∀ (p : Obj), (wd.alloc p).cell? ⟨b4, 1, none⟩ = some (.int .i64 n1) := fun p => by have := H.k4; rw [hT] at this; exact (this.alloc _).cell 1
  have g1_10 : ∀ (p : Obj), (wd.alloc p).cell? ⟨b4, 10, none⟩ = some (.int .i64 n10) := fun p => by have := H.k4; rw [hT] at this; exact (this.alloc _).cell 10
  have g1_9 : ∀ (p : Obj), (wd.alloc p).cell? ⟨b4, 9, none⟩ = some (.int .i64 n9) := fun p => by have := H.k4; rw [hT] at this; exact (this.alloc _).cell 9
  have g1_12 : ∀ (p : Obj), (wd.alloc p).cell? ⟨b4, 12, none⟩ = some (.slice a12 l12 c12) := fun p => by have := H.k4; rw [hT] at this; exact (this.alloc _).cell 12
  have f4_2 : ∀ (p q : Obj), ∀ i : Nat, ((wd.alloc p).alloc q).frozen? ⟨b4, i, none⟩ = false := fun p q => fun i => (((H.k4.alloc _).alloc _)).frozen i
  have g2_1 : ∀ (p q : Obj), ((wd.alloc p).alloc q).cell? ⟨b4, 1, none⟩ = some (.int .i64 n1) := fun p q => by have := H.k4; rw [hT] at this; exact ((this.alloc _).alloc _).cell 1
  have g2_10 : ∀ (p q : Obj), ((wd.alloc p).alloc q).cell? ⟨b4, 10, none⟩ = some (.int .i64 n10) := fun p q => by have := H.k4; rw [hT] at this; exact ((this.alloc _).alloc _).cell 10
  have g2_9 : ∀ (p q : Obj), ((wd.alloc p).alloc q).cell? ⟨b4, 9, none⟩ = some (.int .i64 n9) := fun p q => by have := H.k4; rw [hT] at this; exact ((this.alloc _).alloc _).cell 9
  have g2_12 : ∀ (p q : Obj), ((wd.alloc p).alloc q).cell? ⟨b4, 12, none⟩ = some (.slice a12 l12 c12) := fun p q => by have := H.k4; rw [hT] at this; exact ((this.alloc _).alloc _).cell 12
  have f4_3 : ∀ (p q r : Obj), ∀ i : Nat, (((wd.alloc p).alloc q).alloc r).frozen? ⟨b4, i, none⟩ = false := fun p q r => fun i => ((((H.k4.alloc _).alloc _).alloc _)).frozen i
  have g3_1 : ∀ (p q r : Obj), (((wd.alloc p).alloc q).alloc r).cell? ⟨b4, 1, none⟩ = some (.int .i64 n1) := fun p q r => by have := H.k4; rw [hT] at this; exact (((this.alloc _).alloc _).alloc _).cell 1
  have g3_10 : ∀ (p q r : Obj), (((wd.alloc p).alloc q).alloc r).cell? ⟨b4, 10, none⟩ = some (.int .i64 n10) := fun p q r => by have := H.k4; rw [hT] at this; exact (((this.alloc _).alloc _).alloc _).cell 10
  have g3_9 : ∀ (p q r : Obj), (((wd.alloc p).alloc q).alloc r).cell? ⟨b4, 9, none⟩ = some (.int .i64 n9) := fun p q r => by have := H.k4; rw [hT] at this; exact (((this.alloc _).alloc _).alloc _).cell 9
  have g3_12 : ∀ (p q r : Obj), (((wd.alloc p).alloc q).alloc r).cell? ⟨b4, 12, none⟩ = some (.slice a12 l12 c12) := fun p q r => by have := H.k4; rw [hT] at this; exact (((this.alloc _).alloc _).alloc _).cell 12
  obtain ⟨q0, hq0⟩ : ∃ q, fitS 65535 [n1, n10] = q := ⟨_, rfl⟩
  have HQ0 := Lib.hid hq0
  clear hq0
  obtain ⟨q1, hq1⟩ : ∃ q, fitS 255 [n9] = q := ⟨_, rfl⟩
  have HQ1 := Lib.hid hq1
  clear hq1
  obtain ⟨q2, hq2⟩ : ∃ q, fitS 16777215 [(l12 : Int)] = q := ⟨_, rfl⟩
  have HQ2 := Lib.hid hq2
  clear hq2
  have HT := Lib.hid hT
  rw [hA]
  clear hT hA H hlen hZ
  go_enter Try.func19, Try.ntmps19
  go_upto_region 2 with (first
    | (refine Great.wpList_boxTo rfl 28 (.tmp 0) rfl (some 1) rfl b1 HH.out.e1 T.toArray rfl ?_; rw [HH.out.ea])
    | (refine wpList_allocToS rfl 28 rfl (some 3) rfl b3 HH.out.e3 (.agg Z.toArray) HZ.out ?_; rw [show (Value.agg Z.toArray).cells = Z.toArray from rfl, HH.out.eb])
    | (refine wpList_load_mid rfl 28 (.tmp 1) rfl b1 0 rfl T _ (blkR HH.out.kb) Try.underlying28 rfl HI.out ?_)
    | (refine wpList_allocToS rfl 28 rfl (some 4) rfl b4 HH.out.e4 (.agg Z.toArray) HZ.out ?_; rw [show (Value.agg Z.toArray).cells = Z.toArray from rfl])
    | (refine wpList_store_rowTo rfl 28 (.tmp 4) (.tmp 6) rfl rfl b4 T.toArray rfl rfl 28 _ (by rw [← HH.out.e4]; exact heap_alloc_new wb _) (by rw [HI.out]; simp) (by simp [HZL.out]) HO.out ?_; rw [← HH.out.e4, World.setRow_alloc_new, HH.out.e4, HH.out.ed]))
  cases q0
  · go_upto_region 32 with (first
        | (go_at_call_of 18 (Value.int .i64 65535); refine (fit_newB 65535 [n1, n10] _ _ rfl 2 rfl (by decide) HQ0.out).mono ?_; rintro e w2 ⟨rfl, rfl⟩))
    obtain ⟨u, hu⟩ : ∃ u, u = (((((wd.alloc (.cells #[.int .i64 n1, .int .i64 n10] 3)).setCell ⟨b4, 1, none⟩ (.int .i64 0)).setCell ⟨b4, 10, none⟩ (.int .i64 0)).setCell ⟨b4, 9, none⟩ (.int .i64 0)).setCell ⟨b4, 12, none⟩ (.slice none 0 0)) := ⟨_, rfl⟩
    rw [← hu]
    have hT2' : [.int .i64 21, .int .i64 0, .int .i64 n2, .int .i64 n3, .int .i64 n4, .int .i64 n5, .int .i64 n6, .int .i64 n7, .int .i64 n8, .int .i64 0, .int .i64 0, .int .i64 n11, .slice none 0 0, .slice a13 l13 c13, .slice a14 l14 c14, .slice a15 l15 c15, .slice a16 l16 c16, .slice a17 l17 c17] = ((((T.set 1 (.int .i64 0)).set 10 (.int .i64 0)).set 9 (.int .i64 0)).set 12 (.slice none 0 0)) := by rw [HT.out]; try rfl
    obtain ⟨T2, hT2⟩ : ∃ T2 : List Value, T2 = ((((T.set 1 (.int .i64 0)).set 10 (.int .i64 0)).set 9 (.int .i64 0)).set 12 (.slice none 0 0)) := ⟨_, rfl⟩
    have hk4 : Blk u b4 28 T2 := by rw [hu, hT2]; exact (((((HH.out.k4.alloc _).set_ 1 _).set_ 10 _).set_ 9 _).set_ 12 _)
    have hk3 : Blk u b3 28 Z := by rw [hu]; exact ((set_heap (by have := HH.out.n34; have := HH.out.n4; simp; omega) (by have := HH.out.n34; omega)).trans ((set_heap (by have := HH.out.n34; have := HH.out.n4; simp; omega) (by have := HH.out.n34; omega)).trans ((set_heap (by have := HH.out.n34; have := HH.out.n4; simp; omega) (by have := HH.out.n34; omega)).trans ((set_heap (by have := HH.out.n34; have := HH.out.n4; simp; omega) (by have := HH.out.n34; omega)).trans (HH.out.k3.alloc _)))))
    have hb4 : w.heap.size ≤ b4 := by have := HH.out.n34; have := HH.out.n13; have := HH.out.e1; omega
    have hbu : Below w.heap.size w u := by rw [hu]; exact (((((HH.out.bel.alloc (by have := HH.out.bel.size; simp; omega) _).setCell hb4 _).setCell hb4 _).setCell hb4 _).setCell hb4 _)
    rw [← hT2] at hT2'
    have HI2 : Hid ((Try.prog.info? 28).map (·.size) = some T2.length) := by show _ = _; rw [← hT2', HI.out, HT.out]; try rfl
    have HO2 : Hid (T2.toArray.all (·.oneCell') = true) := by show _ = _; rw [← hT2']; simp; repeat' (first | rfl | constructor)
    have HZ2 : Hid (Z.length = T2.length) := by show _ = _; rw [HZL.out, ← hT2', HT.out]; try rfl
    have HK4 := Lib.hid hk4; have HK3 := Lib.hid hk3; have HBU := Lib.hid hbu; have HT2 := Lib.hid hT2'
    have hb3 : w.heap.size ≤ b3 := by have := HH.out.n13; have := HH.out.e1; omega
    have HB3 := Lib.hid hb3
    clear hT2 hu hk4 hk3 hbu hT2' hb4 hb3 x0_0 x0_1 x0_10 x1_9 x2_12 f4_1 g1_1 g1_10 g1_9 g1_12 f4_2 g2_1 g2_10 g2_9 g2_12 f4_3 g3_1 g3_10 g3_9 g3_12
    refine wp_region_still_tail 3 (by kernel_rfl) (by kernel_rfl) ?_
    simp only [List.take_succ_cons, List.take_zero, List.drop_succ_cons, List.drop_zero]
    still_step
    refine wpStill_step (fun K hK => ?_)
    refine still_loadAt (by rfl) 28 (.tmp 4) rfl b4 0 rfl T2 _ (blkR HK4.out) Try.underlying28 rfl HI2.out (hK _ ?_)
    clear hK K
    still_step
    refine wpStill_nil ?_
    change wpList _ _ _ _ _ u.drew
    refine wpList_store_rowTo rfl 28 (.tmp 3) (.tmp 211) rfl rfl b3 T2.toArray rfl rfl 28 Z.toArray HK3.out (by rw [HI2.out]; simp) (by simp [HZ2.out]) HO2.out ?_
    go_wp2_with fail
    have hfin : (u.drew.setRow b3 T2.toArray).heap[b3]? = some (.cells T2.toArray 28 (0, 0)) := setRow_heap u.drew _ _ _ _ _ HK3.out
    refine bodyPost_ret (results_tmp_cell rfl _ (u.drew.setRow b3 T2.toArray) b3 28 T2.toArray (0, 0) _ rfl hfin Try.underlying28 rfl (by rw [HI2.out]; simp)) rfl ⟨?_, ?_⟩
    · rw [HQ0.out, HT2.out]; first | rfl | simp
    · exact below_setRow HBU.out.drew HB3.out _
  · skip
    cases q1
    · go_upto_region 32 with (first
          | (go_at_call_of 18 (Value.int .i64 65535); refine (fit_newB 65535 [n1, n10] _ _ rfl 2 rfl (by decide) HQ0.out).mono ?_; rintro e w2 ⟨rfl, rfl⟩)
          | (go_at_call_of 18 (Value.int .i64 255); refine (fit_blkB (ys := []) 255 [n9] _ _ 1 (blk_new1 wd _  [.int .i64 n9]) rfl (by decide) HQ1.out).mono ?_; rintro e w2 ⟨rfl, rfl⟩))
      obtain ⟨u, hu⟩ : ∃ u, u = ((((((wd.alloc (.cells #[.int .i64 n1, .int .i64 n10] 3)).alloc (.cells #[.int .i64 n9] 3)).setCell ⟨b4, 1, none⟩ (.int .i64 0)).setCell ⟨b4, 10, none⟩ (.int .i64 0)).setCell ⟨b4, 9, none⟩ (.int .i64 0)).setCell ⟨b4, 12, none⟩ (.slice none 0 0)) := ⟨_, rfl⟩
      rw [← hu]
      have hT2' : [.int .i64 21, .int .i64 0, .int .i64 n2, .int .i64 n3, .int .i64 n4, .int .i64 n5, .int .i64 n6, .int .i64 n7, .int .i64 n8, .int .i64 0, .int .i64 0, .int .i64 n11, .slice none 0 0, .slice a13 l13 c13, .slice a14 l14 c14, .slice a15 l15 c15, .slice a16 l16 c16, .slice a17 l17 c17] = ((((T.set 1 (.int .i64 0)).set 10 (.int .i64 0)).set 9 (.int .i64 0)).set 12 (.slice none 0 0)) := by rw [HT.out]; try rfl
      obtain ⟨T2, hT2⟩ : ∃ T2 : List Value, T2 = ((((T.set 1 (.int .i64 0)).set 10 (.int .i64 0)).set 9 (.int .i64 0)).set 12 (.slice none 0 0)) := ⟨_, rfl⟩
      have hk4 : Blk u b4 28 T2 := by rw [hu, hT2]; exact ((((((HH.out.k4.alloc _).alloc _).set_ 1 _).set_ 10 _).set_ 9 _).set_ 12 _)
      have hk3 : Blk u b3 28 Z := by rw [hu]; exact ((set_heap (by have := HH.out.n34; have := HH.out.n4; simp; omega) (by have := HH.out.n34; omega)).trans ((set_heap (by have := HH.out.n34; have := HH.out.n4; simp; omega) (by have := HH.out.n34; omega)).trans ((set_heap (by have := HH.out.n34; have := HH.out.n4; simp; omega) (by have := HH.out.n34; omega)).trans ((set_heap (by have := HH.out.n34; have := HH.out.n4; simp; omega) (by have := HH.out.n34; omega)).trans ((HH.out.k3.alloc _).alloc _)))))
      have hb4 : w.heap.size ≤ b4 := by have := HH.out.n34; have := HH.out.n13; have := HH.out.e1; omega
      have hbu : Below w.heap.size w u := by rw [hu]; exact ((((((HH.out.bel.alloc (by have := HH.out.bel.size; simp; omega) _).alloc (by have := HH.out.bel.size; simp; omega) _).setCell hb4 _).setCell hb4 _).setCell hb4 _).setCell hb4 _)
      rw [← hT2] at hT2'
      have HI2 : Hid ((Try.prog.info? 28).map (·.size) = some T2.length) := by show _ = _; rw [← hT2', HI.out, HT.out]; try rfl
      have HO2 : Hid (T2.toArray.all (·.oneCell') = true) := by show _ = _; rw [← hT2']; simp; repeat' (first | rfl | constructor)
      have HZ2 : Hid (Z.length = T2.length) := by show _ = _; rw [HZL.out, ← hT2', HT.out]; try rfl
      have HK4 := Lib.hid hk4; have HK3 := Lib.hid hk3; have HBU := Lib.hid hbu; have HT2 := Lib.hid hT2'
      have hb3 : w.heap.size ≤ b3 := by have := HH.out.n13; have := HH.out.e1; omega
      have HB3 := Lib.hid hb3
      clear hT2 hu hk4 hk3 hbu hT2' hb4 hb3 x0_0 x0_1 x0_10 x1_9 x2_12 f4_1 g1_1 g1_10 g1_9 g1_12 f4_2 g2_1 g2_10 g2_9 g2_12 f4_3 g3_1 g3_10 g3_9 g3_12
      refine wp_region_still_tail 3 (by kernel_rfl) (by kernel_rfl) ?_
      simp only [List.take_succ_cons, List.take_zero, List.drop_succ_cons, List.drop_zero]
      still_step
      refine wpStill_step (fun K hK => ?_)
      refine still_loadAt (by rfl) 28 (.tmp 4) rfl b4 0 rfl T2 _ (blkR HK4.out) Try.underlying28 rfl HI2.out (hK _ ?_)
      clear hK K
      still_step
      refine wpStill_nil ?_
      change wpList _ _ _ _ _ u.drew
      refine wpList_store_rowTo rfl 28 (.tmp 3) (.tmp 211) rfl rfl b3 T2.toArray rfl rfl 28 Z.toArray HK3.out (by rw [HI2.out]; simp) (by simp [HZ2.out]) HO2.out ?_
      go_wp2_with fail
      have hfin : (u.drew.setRow b3 T2.toArray).heap[b3]? = some (.cells T2.toArray 28 (0, 0)) := setRow_heap u.drew _ _ _ _ _ HK3.out
      refine bodyPost_ret (results_tmp_cell rfl _ (u.drew.setRow b3 T2.toArray) b3 28 T2.toArray (0, 0) _ rfl hfin Try.underlying28 rfl (by rw [HI2.out]; simp)) rfl ⟨?_, ?_⟩
      · rw [HQ0.out, HQ1.out, HT2.out]; first | rfl | simp
      · exact below_setRow HBU.out.drew HB3.out _
    · skip
      cases q2
      · go_upto_region 32 with (first
            | (go_at_call_of 18 (Value.int .i64 65535); refine (fit_newB 65535 [n1, n10] _ _ rfl 2 rfl (by decide) HQ0.out).mono ?_; rintro e w2 ⟨rfl, rfl⟩)
            | (go_at_call_of 18 (Value.int .i64 255); refine (fit_blkB (ys := []) 255 [n9] _ _ 1 (blk_new1 wd _  [.int .i64 n9]) rfl (by decide) HQ1.out).mono ?_; rintro e w2 ⟨rfl, rfl⟩)
            | (go_at_call_of 18 (Value.int .i64 16777215); refine (fit_blkB (ys := []) 16777215 [(l12 : Int)] _ _ 1 (blk_new2 wd _ _  [.int .i64 (l12 : Int)]) rfl (by decide) HQ2.out).mono ?_; rintro e w2 ⟨rfl, rfl⟩))
        obtain ⟨u, hu⟩ : ∃ u, u = (((((((wd.alloc (.cells #[.int .i64 n1, .int .i64 n10] 3)).alloc (.cells #[.int .i64 n9] 3)).alloc (.cells #[.int .i64 (l12 : Int)] 3)).setCell ⟨b4, 1, none⟩ (.int .i64 0)).setCell ⟨b4, 10, none⟩ (.int .i64 0)).setCell ⟨b4, 9, none⟩ (.int .i64 0)).setCell ⟨b4, 12, none⟩ (.slice none 0 0)) := ⟨_, rfl⟩
        rw [← hu]
        have hT2' : [.int .i64 21, .int .i64 0, .int .i64 n2, .int .i64 n3, .int .i64 n4, .int .i64 n5, .int .i64 n6, .int .i64 n7, .int .i64 n8, .int .i64 0, .int .i64 0, .int .i64 n11, .slice none 0 0, .slice a13 l13 c13, .slice a14 l14 c14, .slice a15 l15 c15, .slice a16 l16 c16, .slice a17 l17 c17] = ((((T.set 1 (.int .i64 0)).set 10 (.int .i64 0)).set 9 (.int .i64 0)).set 12 (.slice none 0 0)) := by rw [HT.out]; try rfl
        obtain ⟨T2, hT2⟩ : ∃ T2 : List Value, T2 = ((((T.set 1 (.int .i64 0)).set 10 (.int .i64 0)).set 9 (.int .i64 0)).set 12 (.slice none 0 0)) := ⟨_, rfl⟩
        have hk4 : Blk u b4 28 T2 := by rw [hu, hT2]; exact (((((((HH.out.k4.alloc _).alloc _).alloc _).set_ 1 _).set_ 10 _).set_ 9 _).set_ 12 _)
        have hk3 : Blk u b3 28 Z := by rw [hu]; exact ((set_heap (by have := HH.out.n34; have := HH.out.n4; simp; omega) (by have := HH.out.n34; omega)).trans ((set_heap (by have := HH.out.n34; have := HH.out.n4; simp; omega) (by have := HH.out.n34; omega)).trans ((set_heap (by have := HH.out.n34; have := HH.out.n4; simp; omega) (by have := HH.out.n34; omega)).trans ((set_heap (by have := HH.out.n34; have := HH.out.n4; simp; omega) (by have := HH.out.n34; omega)).trans (((HH.out.k3.alloc _).alloc _).alloc _)))))
        have hb4 : w.heap.size ≤ b4 := by have := HH.out.n34; have := HH.out.n13; have := HH.out.e1; omega
        have hbu : Below w.heap.size w u := by rw [hu]; exact (((((((HH.out.bel.alloc (by have := HH.out.bel.size; simp; omega) _).alloc (by have := HH.out.bel.size; simp; omega) _).alloc (by have := HH.out.bel.size; simp; omega) _).setCell hb4 _).setCell hb4 _).setCell hb4 _).setCell hb4 _)
        rw [← hT2] at hT2'
        have HI2 : Hid ((Try.prog.info? 28).map (·.size) = some T2.length) := by show _ = _; rw [← hT2', HI.out, HT.out]; try rfl
        have HO2 : Hid (T2.toArray.all (·.oneCell') = true) := by show _ = _; rw [← hT2']; simp; repeat' (first | rfl | constructor)
        have HZ2 : Hid (Z.length = T2.length) := by show _ = _; rw [HZL.out, ← hT2', HT.out]; try rfl
        have HK4 := Lib.hid hk4; have HK3 := Lib.hid hk3; have HBU := Lib.hid hbu; have HT2 := Lib.hid hT2'
        have hb3 : w.heap.size ≤ b3 := by have := HH.out.n13; have := HH.out.e1; omega
        have HB3 := Lib.hid hb3
        clear hT2 hu hk4 hk3 hbu hT2' hb4 hb3 x0_0 x0_1 x0_10 x1_9 x2_12 f4_1 g1_1 g1_10 g1_9 g1_12 f4_2 g2_1 g2_10 g2_9 g2_12 f4_3 g3_1 g3_10 g3_9 g3_12
        refine wp_region_still_tail 3 (by kernel_rfl) (by kernel_rfl) ?_
        simp only [List.take_succ_cons, List.take_zero, List.drop_succ_cons, List.drop_zero]
        still_step
        refine wpStill_step (fun K hK => ?_)
        refine still_loadAt (by rfl) 28 (.tmp 4) rfl b4 0 rfl T2 _ (blkR HK4.out) Try.underlying28 rfl HI2.out (hK _ ?_)
        clear hK K
        still_step
        refine wpStill_nil ?_
        change wpList _ _ _ _ _ u.drew
        refine wpList_store_rowTo rfl 28 (.tmp 3) (.tmp 211) rfl rfl b3 T2.toArray rfl rfl 28 Z.toArray HK3.out (by rw [HI2.out]; simp) (by simp [HZ2.out]) HO2.out ?_
        go_wp2_with fail
        have hfin : (u.drew.setRow b3 T2.toArray).heap[b3]? = some (.cells T2.toArray 28 (0, 0)) := setRow_heap u.drew _ _ _ _ _ HK3.out
        refine bodyPost_ret (results_tmp_cell rfl _ (u.drew.setRow b3 T2.toArray) b3 28 T2.toArray (0, 0) _ rfl hfin Try.underlying28 rfl (by rw [HI2.out]; simp)) rfl ⟨?_, ?_⟩
        · rw [HQ0.out, HQ1.out, HQ2.out, HT2.out]; first | rfl | simp
        · exact below_setRow HBU.out.drew HB3.out _
      · skip
        go_upto_region 32 with (first
            | (go_at_call_of 18 (Value.int .i64 65535); refine (fit_newB 65535 [n1, n10] _ _ rfl 2 rfl (by decide) HQ0.out).mono ?_; rintro e w2 ⟨rfl, rfl⟩)
            | (go_at_call_of 18 (Value.int .i64 255); refine (fit_blkB (ys := []) 255 [n9] _ _ 1 (blk_new1 wd _  [.int .i64 n9]) rfl (by decide) HQ1.out).mono ?_; rintro e w2 ⟨rfl, rfl⟩)
            | (go_at_call_of 18 (Value.int .i64 16777215); refine (fit_blkB (ys := []) 16777215 [(l12 : Int)] _ _ 1 (blk_new2 wd _ _  [.int .i64 (l12 : Int)]) rfl (by decide) HQ2.out).mono ?_; rintro e w2 ⟨rfl, rfl⟩))
        obtain ⟨u, hu⟩ : ∃ u, u = (((((((wd.alloc (.cells #[.int .i64 n1, .int .i64 n10] 3)).alloc (.cells #[.int .i64 n9] 3)).alloc (.cells #[.int .i64 (l12 : Int)] 3)).setCell ⟨b4, 1, none⟩ (.int .i64 0)).setCell ⟨b4, 10, none⟩ (.int .i64 0)).setCell ⟨b4, 9, none⟩ (.int .i64 0)).setCell ⟨b4, 12, none⟩ (.slice none 0 0)) := ⟨_, rfl⟩
        rw [← hu]
        have hT2' : [.int .i64 21, .int .i64 0, .int .i64 n2, .int .i64 n3, .int .i64 n4, .int .i64 n5, .int .i64 n6, .int .i64 n7, .int .i64 n8, .int .i64 0, .int .i64 0, .int .i64 n11, .slice none 0 0, .slice a13 l13 c13, .slice a14 l14 c14, .slice a15 l15 c15, .slice a16 l16 c16, .slice a17 l17 c17] = ((((T.set 1 (.int .i64 0)).set 10 (.int .i64 0)).set 9 (.int .i64 0)).set 12 (.slice none 0 0)) := by rw [HT.out]; try rfl
        obtain ⟨T2, hT2⟩ : ∃ T2 : List Value, T2 = ((((T.set 1 (.int .i64 0)).set 10 (.int .i64 0)).set 9 (.int .i64 0)).set 12 (.slice none 0 0)) := ⟨_, rfl⟩
        have hk4 : Blk u b4 28 T2 := by rw [hu, hT2]; exact (((((((HH.out.k4.alloc _).alloc _).alloc _).set_ 1 _).set_ 10 _).set_ 9 _).set_ 12 _)
        have hk3 : Blk u b3 28 Z := by rw [hu]; exact ((set_heap (by have := HH.out.n34; have := HH.out.n4; simp; omega) (by have := HH.out.n34; omega)).trans ((set_heap (by have := HH.out.n34; have := HH.out.n4; simp; omega) (by have := HH.out.n34; omega)).trans ((set_heap (by have := HH.out.n34; have := HH.out.n4; simp; omega) (by have := HH.out.n34; omega)).trans ((set_heap (by have := HH.out.n34; have := HH.out.n4; simp; omega) (by have := HH.out.n34; omega)).trans (((HH.out.k3.alloc _).alloc _).alloc _)))))
        have hb4 : w.heap.size ≤ b4 := by have := HH.out.n34; have := HH.out.n13; have := HH.out.e1; omega
        have hbu : Below w.heap.size w u := by rw [hu]; exact (((((((HH.out.bel.alloc (by have := HH.out.bel.size; simp; omega) _).alloc (by have := HH.out.bel.size; simp; omega) _).alloc (by have := HH.out.bel.size; simp; omega) _).setCell hb4 _).setCell hb4 _).setCell hb4 _).setCell hb4 _)
        rw [← hT2] at hT2'
        have HI2 : Hid ((Try.prog.info? 28).map (·.size) = some T2.length) := by show _ = _; rw [← hT2', HI.out, HT.out]; try rfl
        have HO2 : Hid (T2.toArray.all (·.oneCell') = true) := by show _ = _; rw [← hT2']; simp; repeat' (first | rfl | constructor)
        have HZ2 : Hid (Z.length = T2.length) := by show _ = _; rw [HZL.out, ← hT2', HT.out]; try rfl
        have HK4 := Lib.hid hk4; have HK3 := Lib.hid hk3; have HBU := Lib.hid hbu; have HT2 := Lib.hid hT2'
        have hb3 : w.heap.size ≤ b3 := by have := HH.out.n13; have := HH.out.e1; omega
        have HB3 := Lib.hid hb3
        clear hT2 hu hk4 hk3 hbu hT2' hb4 hb3 x0_0 x0_1 x0_10 x1_9 x2_12 f4_1 g1_1 g1_10 g1_9 g1_12 f4_2 g2_1 g2_10 g2_9 g2_12 f4_3 g3_1 g3_10 g3_9 g3_12
        refine wp_region_still_tail 3 (by kernel_rfl) (by kernel_rfl) ?_
        simp only [List.take_succ_cons, List.take_zero, List.drop_succ_cons, List.drop_zero]
        still_step
        refine wpStill_step (fun K hK => ?_)
        refine still_loadAt (by rfl) 28 (.tmp 4) rfl b4 0 rfl T2 _ (blkR HK4.out) Try.underlying28 rfl HI2.out (hK _ ?_)
        clear hK K
        still_step
        refine wpStill_nil ?_
        change wpList _ _ _ _ _ u.drew
        refine wpList_store_rowTo rfl 28 (.tmp 3) (.tmp 211) rfl rfl b3 T2.toArray rfl rfl 28 Z.toArray HK3.out (by rw [HI2.out]; simp) (by simp [HZ2.out]) HO2.out ?_
        go_wp2_with fail
        have hfin : (u.drew.setRow b3 T2.toArray).heap[b3]? = some (.cells T2.toArray 28 (0, 0)) := setRow_heap u.drew _ _ _ _ _ HK3.out
        refine bodyPost_ret (results_tmp_cell rfl _ (u.drew.setRow b3 T2.toArray) b3 28 T2.toArray (0, 0) _ rfl hfin Try.underlying28 rfl (by rw [HI2.out]; simp)) rfl ⟨?_, ?_⟩
        · rw [HQ0.out, HQ1.out, HQ2.out, HT2.out]; first | rfl | simp
        · exact below_setRow HBU.out.drew HB3.out _
set_option maxRecDepth 100000 in
set_option maxHeartbeats 16000000 in
theorem sp_sound_20 (n1 n2 n3 n4 n5 n6 n7 n8 n9 n10 n11 : Int) (a12 a13 a14 a15 a16 a17 : Option Addr) (l12 l13 l14 l15 l16 l17 c12 c13 c14 c15 c16 c17 : Nat) (w : World) :
    Calls Try.prog 19 #[.agg #[.int .i64 20, .int .i64 n1, .int .i64 n2, .int .i64 n3, .int .i64 n4, .int .i64 n5, .int .i64 n6, .int .i64 n7, .int .i64 n8, .int .i64 n9, .int .i64 n10, .int .i64 n11, .slice a12 l12 c12, .slice a13 l13 c13, .slice a14 l14 c14, .slice a15 l15 c15, .slice a16 l16 c16, .slice a17 l17 c17]] w
      (SndR (fitS 65535 [n1, n5, n6] && (fitS 255 [n9] && (fitS 16777215 [(l12 : Int)]))) [.int .i64 20, .int .i64 0, .int .i64 n2, .int .i64 n3, .int .i64 n4, .int .i64 0, .int .i64 0, .int .i64 n7, .int .i64 n8, .int .i64 0, .int .i64 n10, .int .i64 n11, .slice none 0 0, .slice a13 l13 c13, .slice a14 l14 c14, .slice a15 l15 c15, .slice a16 l16 c16, .slice a17 l17 c17] w) := by
  obtain ⟨T, hT⟩ : ∃ T : List Value, T = [.int .i64 20, .int .i64 n1, .int .i64 n2, .int .i64 n3, .int .i64 n4, .int .i64 n5, .int .i64 n6, .int .i64 n7, .int .i64 n8, .int .i64 n9, .int .i64 n10, .int .i64 n11, .slice a12 l12 c12, .slice a13 l13 c13, .slice a14 l14 c14, .slice a15 l15 c15, .slice a16 l16 c16, .slice a17 l17 c17] := ⟨_, rfl⟩
  have hA : (#[.int .i64 20, .int .i64 n1, .int .i64 n2, .int .i64 n3, .int .i64 n4, .int .i64 n5, .int .i64 n6, .int .i64 n7, .int .i64 n8, .int .i64 n9, .int .i64 n10, .int .i64 n11, .slice a12 l12 c12, .slice a13 l13 c13, .slice a14 l14 c14, .slice a15 l15 c15, .slice a16 l16 c16, .slice a17 l17 c17] : Array Value) = T.toArray := by rw [hT]
  obtain ⟨Z, hZ⟩ : ∃ Z : List Value, Z = [.int .i64 0, .int .i64 0, .int .i64 0, .int .i64 0, .int .i64 0, .int .i64 0, .int .i64 0, .int .i64 0, .int .i64 0, .int .i64 0, .int .i64 0, .int .i64 0, .slice none 0 0, .slice none 0 0, .slice none 0 0, .slice none 0 0, .slice none 0 0, .slice none 0 0] := ⟨_, rfl⟩
  obtain ⟨wa, wb, wd, b1, b3, b4, H⟩ := laid3 w T Z
  have HH := Lib.hid H
  have hlen : T.length = 18 := by rw [hT]; rfl
  have HI : Hid ((Try.prog.info? 28).map (·.size) = some T.length) := by show _ = _; rw [hlen]; exact infoBlkS
  have HO : Hid (T.toArray.all (·.oneCell') = true) := by show _ = _; rw [hT]; simp; repeat' (first | rfl | constructor)
  have HZ : Hid ((Try.prog.info? 28).bind (·.zero) = some (.agg Z.toArray)) := by show _ = _; rw [hZ]; kernel_rfl
  have HZL : Hid (Z.length = T.length) := by show _ = _; rw [hZ, hT]; rfl
  have x0_0 : wd.cell? ⟨b1, 0, none⟩ = some (.int .i64 20) := by have := H.k1; rw [hT] at this; exact this.cell 0
  have x0_1 : wd.cell? ⟨b1, 1, none⟩ = some (.int .i64 n1) := by have := H.k1; rw [hT] at this; exact this.cell 1
  have x0_5 : wd.cell? ⟨b1, 5, none⟩ = some (.int .i64 n5) := by have := H.k1; rw [hT] at this; exact this.cell 5
  have x0_6 : wd.cell? ⟨b1, 6, none⟩ = some (.int .i64 n6) := by have := H.k1; rw [hT] at this; exact this.cell 6
  have x1_9 : ∀ (p : Obj), (wd.alloc p).cell? ⟨b1, 9, none⟩ = some (.int .i64 n9) := fun p => by have := H.k1; rw [hT] at this; exact (this.alloc _).cell 9
  have x2_12 : ∀ (p q : Obj), ((wd.alloc p).alloc q).cell? ⟨b1, 12, none⟩ = some (.slice a12 l12 c12) := fun p q => by have := H.k1; rw [hT] at this; exact ((this.alloc _).alloc _).cell 12
  have f4_1 : ∀ (p : Obj), ∀ i : Nat, (wd.alloc p).frozen? ⟨b4, i, none⟩ = false := fun p => fun i => ((H.k4.alloc _)).frozen i
  have g1_1 : ∀ (p : Obj), (wd.alloc p).cell? ⟨b4, 1, none⟩ = some (.int .i64 n1) := fun p => by have := H.k4; rw [hT] at this; exact (this.alloc _).cell 1
  have g1_5 : ∀ (p : Obj), (wd.alloc p).cell? ⟨b4, 5, none⟩ = some (.int .i64 n5) := fun p => by have := H.k4; rw [hT] at this; exact (this.alloc _).cell 5
  have g1_6 : ∀ (p : Obj), (wd.alloc p).cell? ⟨b4, 6, none⟩ = some (.int .i64 n6) := fun p => by have := H.k4; rw [hT] at this; exact (this.alloc _).cell 6
  have g1_9 : ∀ (p : Obj), (wd.alloc p).cell? ⟨b4, 9, none⟩ = some (.int .i64 n9) := fun p => by have := H.k4; rw [hT] at this; exact (this.alloc _).cell 9
  have g1_12 : ∀ (p : Obj), (wd.alloc p).cell? ⟨b4, 12, none⟩ = some (.slice a12 l12 c12) := fun p => by have := H.k4; rw [hT] at this; exact (this.alloc _).cell 12
  have f4_2 : ∀ (p q : Obj), ∀ i : Nat, ((wd.alloc p).alloc q).frozen? ⟨b4, i, none⟩ = false := fun p q => fun i => (((H.k4.alloc _).alloc _)).frozen i
  have g2_1 : ∀ (p q : Obj), ((wd.alloc p).alloc q).cell? ⟨b4, 1, none⟩ = some (.int .i64 n1) := fun p q => by have := H.k4; rw [hT] at this; exact ((this.alloc _).alloc _).cell 1
  have g2_5 : ∀ (p q : Obj), ((wd.alloc p).alloc q).cell? ⟨b4, 5, none⟩ = some (.int .i64 n5) := fun p q => by have := H.k4; rw [hT] at this; exact ((this.alloc _).alloc _).cell 5
  have g2_6 : ∀ (p q : Obj), ((wd.alloc p).alloc q).cell? ⟨b4, 6, none⟩ = some (.int .i64 n6) := fun p q => by have := H.k4; rw [hT] at this; exact ((this.alloc _).alloc _).cell 6
  have g2_9 : ∀ (p q : Obj), ((wd.alloc p).alloc q).cell? ⟨b4, 9, none⟩ = some (.int .i64 n9) := fun p q => by have := H.k4; rw [hT] at this; exact ((this.alloc _).alloc _).cell 9
  have g2_12 : ∀ (p q : Obj), ((wd.alloc p).alloc q).cell? ⟨b4, 12, none⟩ = some (.slice a12 l12 c12) := fun p q => by have := H.k4; rw [hT] at this; exact ((this.alloc _).alloc _).cell 12
  have f4_3 : ∀ (p q r : Obj), ∀ i : Nat, (((wd.alloc p).alloc q).alloc r).frozen? ⟨b4, i, none⟩ = false := fun p q r => fun i => ((((H.k4.alloc _).alloc _).alloc _)).frozen i
  have g3_1 : ∀ (p q r : Obj), (((wd.alloc p).alloc q).alloc r).cell? ⟨b4, 1, none⟩ = some (.int .i64 n1) := fun p q r => by have := H.k4; rw [hT] at this; exact (((this.alloc _).alloc _).alloc _).cell 1
  have g3_5 : ∀ (p q r : Obj), (((wd.alloc p).alloc q).alloc r).cell? ⟨b4, 5, none⟩ = some (.int .i64 n5) := fun p q r => by have := H.k4; rw [hT] at this; exact (((this.alloc _).alloc _).alloc _).cell 5
  have g3_6 : ∀ (p q r : Obj), (((wd.alloc p).alloc q).alloc r).cell? ⟨b4, 6, none⟩ = some (.int .i64 n6) := fun p q r => by have := H.k4; rw [hT] at this; exact (((this.alloc _).alloc _).alloc _).cell 6
  have g3_9 : ∀ (p q r : Obj), (((wd.alloc p).alloc q).alloc r).cell? ⟨b4, 9, none⟩ = some (.int .i64 n9) := fun p q r => by have := H.k4; rw [hT] at this; exact (((this.alloc _).alloc _).alloc _).cell 9
  have g3_12 : ∀ (p q r : Obj), (((wd.alloc p).alloc q).alloc r).cell? ⟨b4, 12, none⟩ = some (.slice a12 l12 c12) := fun p q r => by have := H.k4; rw [hT] at this; exact (((this.alloc _).alloc _).alloc _).cell 12
  obtain ⟨q0, hq0⟩ : ∃ q, fitS 65535 [n1, n5, n6] = q := ⟨_, rfl⟩
  have HQ0 := Lib.hid hq0
  clear hq0
  obtain ⟨q1, hq1⟩ : ∃ q, fitS 255 [n9] = q := ⟨_, rfl⟩
  have HQ1 := Lib.hid hq1
  clear hq1
  obtain ⟨q2, hq2⟩ : ∃ q, fitS 16777215 [(l12 : Int)] = q := ⟨_, rfl⟩
  have HQ2 := Lib.hid hq2
  clear hq2
  have HT := Lib.hid hT
  rw [hA]
  clear hT hA H hlen hZ
  go_enter Try.func19, Try.ntmps19
  go_upto_region 2 with (first
    | (refine Great.wpList_boxTo rfl 28 (.tmp 0) rfl (some 1) rfl b1 HH.out.e1 T.toArray rfl ?_; rw [HH.out.ea])
    | (refine wpList_allocToS rfl 28 rfl (some 3) rfl b3 HH.out.e3 (.agg Z.toArray) HZ.out ?_; rw [show (Value.agg Z.toArray).cells = Z.toArray from rfl, HH.out.eb])
    | (refine wpList_load_mid rfl 28 (.tmp 1) rfl b1 0 rfl T _ (blkR HH.out.kb) Try.underlying28 rfl HI.out ?_)
    | (refine wpList_allocToS rfl 28 rfl (some 4) rfl b4 HH.out.e4 (.agg Z.toArray) HZ.out ?_; rw [show (Value.agg Z.toArray).cells = Z.toArray from rfl])
    | (refine wpList_store_rowTo rfl 28 (.tmp 4) (.tmp 6) rfl rfl b4 T.toArray rfl rfl 28 _ (by rw [← HH.out.e4]; exact heap_alloc_new wb _) (by rw [HI.out]; simp) (by simp [HZL.out]) HO.out ?_; rw [← HH.out.e4, World.setRow_alloc_new, HH.out.e4, HH.out.ed]))
  cases q0
  · go_upto_region 32 with (first
        | (go_at_call_of 18 (Value.int .i64 65535); refine (fit_newB 65535 [n1, n5, n6] _ _ rfl 3 rfl (by decide) HQ0.out).mono ?_; rintro e w2 ⟨rfl, rfl⟩))
    obtain ⟨u, hu⟩ : ∃ u, u = ((((((wd.alloc (.cells #[.int .i64 n1, .int .i64 n5, .int .i64 n6] 3)).setCell ⟨b4, 1, none⟩ (.int .i64 0)).setCell ⟨b4, 5, none⟩ (.int .i64 0)).setCell ⟨b4, 6, none⟩ (.int .i64 0)).setCell ⟨b4, 9, none⟩ (.int .i64 0)).setCell ⟨b4, 12, none⟩ (.slice none 0 0)) := ⟨_, rfl⟩
    rw [← hu]
    have hT2' : [.int .i64 20, .int .i64 0, .int .i64 n2, .int .i64 n3, .int .i64 n4, .int .i64 0, .int .i64 0, .int .i64 n7, .int .i64 n8, .int .i64 0, .int .i64 n10, .int .i64 n11, .slice none 0 0, .slice a13 l13 c13, .slice a14 l14 c14, .slice a15 l15 c15, .slice a16 l16 c16, .slice a17 l17 c17] = (((((T.set 1 (.int .i64 0)).set 5 (.int .i64 0)).set 6 (.int .i64 0)).set 9 (.int .i64 0)).set 12 (.slice none 0 0)) := by rw [HT.out]; try rfl
    obtain ⟨T2, hT2⟩ : ∃ T2 : List Value, T2 = (((((T.set 1 (.int .i64 0)).set 5 (.int .i64 0)).set 6 (.int .i64 0)).set 9 (.int .i64 0)).set 12 (.slice none 0 0)) := ⟨_, rfl⟩
    have hk4 : Blk u b4 28 T2 := by rw [hu, hT2]; exact ((((((HH.out.k4.alloc _).set_ 1 _).set_ 5 _).set_ 6 _).set_ 9 _).set_ 12 _)
    have hk3 : Blk u b3 28 Z := by rw [hu]; exact ((set_heap (by have := HH.out.n34; have := HH.out.n4; simp; omega) (by have := HH.out.n34; omega)).trans ((set_heap (by have := HH.out.n34; have := HH.out.n4; simp; omega) (by have := HH.out.n34; omega)).trans ((set_heap (by have := HH.out.n34; have := HH.out.n4; simp; omega) (by have := HH.out.n34; omega)).trans ((set_heap (by have := HH.out.n34; have := HH.out.n4; simp; omega) (by have := HH.out.n34; omega)).trans ((set_heap (by have := HH.out.n34; have := HH.out.n4; simp; omega) (by have := HH.out.n34; omega)).trans (HH.out.k3.alloc _))))))
    have hb4 : w.heap.size ≤ b4 := by have := HH.out.n34; have := HH.out.n13; have := HH.out.e1; omega
    have hbu : Below w.heap.size w u := by rw [hu]; exact ((((((HH.out.bel.alloc (by have := HH.out.bel.size; simp; omega) _).setCell hb4 _).setCell hb4 _).setCell hb4 _).setCell hb4 _).setCell hb4 _)
    rw [← hT2] at hT2'
    have HI2 : Hid ((Try.prog.info? 28).map (·.size) = some T2.length) := by show _ = _; rw [← hT2', HI.out, HT.out]; try rfl
    have HO2 : Hid (T2.toArray.all (·.oneCell') = true) := by show _ = _; rw [← hT2']; simp; repeat' (first | rfl | constructor)
    have HZ2 : Hid (Z.length = T2.length) := by show _ = _; rw [HZL.out, ← hT2', HT.out]; try rfl
    have HK4 := Lib.hid hk4; have HK3 := Lib.hid hk3; have HBU := Lib.hid hbu; have HT2 := Lib.hid hT2'
    have hb3 : w.heap.size ≤ b3 := by have := HH.out.n13; have := HH.out.e1; omega
    have HB3 := Lib.hid hb3
    clear hT2 hu hk4 hk3 hbu hT2' hb4 hb3 x0_0 x0_1 x0_5 x0_6 x1_9 x2_12 f4_1 g1_1 g1_5 g1_6 g1_9 g1_12 f4_2 g2_1 g2_5 g2_6 g2_9 g2_12 f4_3 g3_1 g3_5 g3_6 g3_9 g3_12
    refine wp_region_still_tail 3 (by kernel_rfl) (by kernel_rfl) ?_
    simp only [List.take_succ_cons, List.take_zero, List.drop_succ_cons, List.drop_zero]
    still_step
    refine wpStill_step (fun K hK => ?_)
    refine still_loadAt (by rfl) 28 (.tmp 4) rfl b4 0 rfl T2 _ (blkR HK4.out) Try.underlying28 rfl HI2.out (hK _ ?_)
    clear hK K
    still_step
    refine wpStill_nil ?_
    change wpList _ _ _ _ _ u.drew
    refine wpList_store_rowTo rfl 28 (.tmp 3) (.tmp 211) rfl rfl b3 T2.toArray rfl rfl 28 Z.toArray HK3.out (by rw [HI2.out]; simp) (by simp [HZ2.out]) HO2.out ?_
    go_wp2_with fail
    have hfin : (u.drew.setRow b3 T2.toArray).heap[b3]? = some (.cells T2.toArray 28 (0, 0)) := setRow_heap u.drew _ _ _ _ _ HK3.out
    refine bodyPost_ret (results_tmp_cell rfl _ (u.drew.setRow b3 T2.toArray) b3 28 T2.toArray (0, 0) _ rfl hfin Try.underlying28 rfl (by rw [HI2.out]; simp)) rfl ⟨?_, ?_⟩
    · rw [HQ0.out, HT2.out]; first | rfl | simp
    · exact below_setRow HBU.out.drew HB3.out _
  · skip
    cases q1
    · go_upto_region 32 with (first
          | (go_at_call_of 18 (Value.int .i64 65535); refine (fit_newB 65535 [n1, n5, n6] _ _ rfl 3 rfl (by decide) HQ0.out).mono ?_; rintro e w2 ⟨rfl, rfl⟩)
          | (go_at_call_of 18 (Value.int .i64 255); refine (fit_blkB (ys := []) 255 [n9] _ _ 1 (blk_new1 wd _  [.int .i64 n9]) rfl (by decide) HQ1.out).mono ?_; rintro e w2 ⟨rfl, rfl⟩))
      obtain ⟨u, hu⟩ : ∃ u, u = (((((((wd.alloc (.cells #[.int .i64 n1, .int .i64 n5, .int .i64 n6] 3)).alloc (.cells #[.int .i64 n9] 3)).setCell ⟨b4, 1, none⟩ (.int .i64 0)).setCell ⟨b4, 5, none⟩ (.int .i64 0)).setCell ⟨b4, 6, none⟩ (.int .i64 0)).setCell ⟨b4, 9, none⟩ (.int .i64 0)).setCell ⟨b4, 12, none⟩ (.slice none 0 0)) := ⟨_, rfl⟩
      rw [← hu]
      have hT2' : [.int .i64 20, .int .i64 0, .int .i64 n2, .int .i64 n3, .int .i64 n4, .int .i64 0, .int .i64 0, .int .i64 n7, .int .i64 n8, .int .i64 0, .int .i64 n10, .int .i64 n11, .slice none 0 0, .slice a13 l13 c13, .slice a14 l14 c14, .slice a15 l15 c15, .slice a16 l16 c16, .slice a17 l17 c17] = (((((T.set 1 (.int .i64 0)).set 5 (.int .i64 0)).set 6 (.int .i64 0)).set 9 (.int .i64 0)).set 12 (.slice none 0 0)) := by rw [HT.out]; try rfl
      obtain ⟨T2, hT2⟩ : ∃ T2 : List Value, T2 = (((((T.set 1 (.int .i64 0)).set 5 (.int .i64 0)).set 6 (.int .i64 0)).set 9 (.int .i64 0)).set 12 (.slice none 0 0)) := ⟨_, rfl⟩
      have hk4 : Blk u b4 28 T2 := by rw [hu, hT2]; exact (((((((HH.out.k4.alloc _).alloc _).set_ 1 _).set_ 5 _).set_ 6 _).set_ 9 _).set_ 12 _)
      have hk3 : Blk u b3 28 Z := by rw [hu]; exact ((set_heap (by have := HH.out.n34; have := HH.out.n4; simp; omega) (by have := HH.out.n34; omega)).trans ((set_heap (by have := HH.out.n34; have := HH.out.n4; simp; omega) (by have := HH.out.n34; omega)).trans ((set_heap (by have := HH.out.n34; have := HH.out.n4; simp; omega) (by have := HH.out.n34; omega)).trans ((set_heap (by have := HH.out.n34; have := HH.out.n4; simp; omega) (by have := HH.out.n34; omega)).trans ((set_heap (by have := HH.out.n34; have := HH.out.n4; simp; omega) (by have := HH.out.n34; omega)).trans ((HH.out.k3.alloc _).alloc _))))))
      have hb4 : w.heap.size ≤ b4 := by have := HH.out.n34; have := HH.out.n13; have := HH.out.e1; omega
      have hbu : Below w.heap.size w u := by rw [hu]; exact (((((((HH.out.bel.alloc (by have := HH.out.bel.size; simp; omega) _).alloc (by have := HH.out.bel.size; simp; omega) _).setCell hb4 _).setCell hb4 _).setCell hb4 _).setCell hb4 _).setCell hb4 _)
      rw [← hT2] at hT2'
      have HI2 : Hid ((Try.prog.info? 28).map (·.size) = some T2.length) := by show _ = _; rw [← hT2', HI.out, HT.out]; try rfl
      have HO2 : Hid (T2.toArray.all (·.oneCell') = true) := by show _ = _; rw [← hT2']; simp; repeat' (first | rfl | constructor)
      have HZ2 : Hid (Z.length = T2.length) := by show _ = _; rw [HZL.out, ← hT2', HT.out]; try rfl
      have HK4 := Lib.hid hk4; have HK3 := Lib.hid hk3; have HBU := Lib.hid hbu; have HT2 := Lib.hid hT2'
      have hb3 : w.heap.size ≤ b3 := by have := HH.out.n13; have := HH.out.e1; omega
      have HB3 := Lib.hid hb3
      clear hT2 hu hk4 hk3 hbu hT2' hb4 hb3 x0_0 x0_1 x0_5 x0_6 x1_9 x2_12 f4_1 g1_1 g1_5 g1_6 g1_9 g1_12 f4_2 g2_1 g2_5 g2_6 g2_9 g2_12 f4_3 g3_1 g3_5 g3_6 g3_9 g3_12
      refine wp_region_still_tail 3 (by kernel_rfl) (by kernel_rfl) ?_
      simp only [List.take_succ_cons, List.take_zero, List.drop_succ_cons, List.drop_zero]
      still_step
      refine wpStill_step (fun K hK => ?_)
      refine still_loadAt (by rfl) 28 (.tmp 4) rfl b4 0 rfl T2 _ (blkR HK4.out) Try.underlying28 rfl HI2.out (hK _ ?_)
      clear hK K
      still_step
      refine wpStill_nil ?_
      change wpList _ _ _ _ _ u.drew
      refine wpList_store_rowTo rfl 28 (.tmp 3) (.tmp 211) rfl rfl b3 T2.toArray rfl rfl 28 Z.toArray HK3.out (by rw [HI2.out]; simp) (by simp [HZ2.out]) HO2.out ?_
      go_wp2_with fail
      have hfin : (u.drew.setRow b3 T2.toArray).heap[b3]? = some (.cells T2.toArray 28 (0, 0)) := setRow_heap u.drew _ _ _ _ _ HK3.out
      refine bodyPost_ret (results_tmp_cell rfl _ (u.drew.setRow b3 T2.toArray) b3 28 T2.toArray (0, 0) _ rfl hfin Try.underlying28 rfl (by rw [HI2.out]; simp)) rfl ⟨?_, ?_⟩
      · rw [HQ0.out, HQ1.out, HT2.out]; first | rfl | simp
      · exact below_setRow HBU.out.drew HB3.out _
    · skip
      cases q2
      · go_upto_region 32 with (first
            | (go_at_call_of 18 (Value.int .i64 65535); refine (fit_newB 65535 [n1, n5, n6] _ _ rfl 3 rfl (by decide) HQ0.out).mono ?_; rintro e w2 ⟨rfl, rfl⟩)
            | (go_at_call_of 18 (Value.int .i64 255); refine (fit_blkB (ys := []) 255 [n9] _ _ 1 (blk_new1 wd _  [.int .i64 n9]) rfl (by decide) HQ1.out).mono ?_; rintro e w2 ⟨rfl, rfl⟩)
            | (go_at_call_of 18 (Value.int .i64 16777215); refine (fit_blkB (ys := []) 16777215 [(l12 : Int)] _ _ 1 (blk_new2 wd _ _  [.int .i64 (l12 : Int)]) rfl (by decide) HQ2.out).mono ?_; rintro e w2 ⟨rfl, rfl⟩))
        obtain ⟨u, hu⟩ : ∃ u, u = ((((((((wd.alloc (.cells #[.int .i64 n1, .int .i64 n5, .int .i64 n6] 3)).alloc (.cells #[.int .i64 n9] 3)).alloc (.cells #[.int .i64 (l12 : Int)] 3)).setCell ⟨b4, 1, none⟩ (.int .i64 0)).setCell ⟨b4, 5, none⟩ (.int .i64 0)).setCell ⟨b4, 6, none⟩ (.int .i64 0)).setCell ⟨b4, 9, none⟩ (.int .i64 0)).setCell ⟨b4, 12, none⟩ (.slice none 0 0)) := ⟨_, rfl⟩
        rw [← hu]
        have hT2' : [.int .i64 20, .int .i64 0, .int .i64 n2, .int .i64 n3, .int .i64 n4, .int .i64 0, .int .i64 0, .int .i64 n7, .int .i64 n8, .int .i64 0, .int .i64 n10, .int .i64 n11, .slice none 0 0, .slice a13 l13 c13, .slice a14 l14 c14, .slice a15 l15 c15, .slice a16 l16 c16, .slice a17 l17 c17] = (((((T.set 1 (.int .i64 0)).set 5 (.int .i64 0)).set 6 (.int .i64 0)).set 9 (.int .i64 0)).set 12 (.slice none 0 0)) := by rw [HT.out]; try rfl
        obtain ⟨T2, hT2⟩ : ∃ T2 : List Value, T2 = (((((T.set 1 (.int .i64 0)).set 5 (.int .i64 0)).set 6 (.int .i64 0)).set 9 (.int .i64 0)).set 12 (.slice none 0 0)) := ⟨_, rfl⟩
        have hk4 : Blk u b4 28 T2 := by rw [hu, hT2]; exact ((((((((HH.out.k4.alloc _).alloc _).alloc _).set_ 1 _).set_ 5 _).set_ 6 _).set_ 9 _).set_ 12 _)
        have hk3 : Blk u b3 28 Z := by rw [hu]; exact ((set_heap (by have := HH.out.n34; have := HH.out.n4; simp; omega) (by have := HH.out.n34; omega)).trans ((set_heap (by have := HH.out.n34; have := HH.out.n4; simp; omega) (by have := HH.out.n34; omega)).trans ((set_heap (by have := HH.out.n34; have := HH.out.n4; simp; omega) (by have := HH.out.n34; omega)).trans ((set_heap (by have := HH.out.n34; have := HH.out.n4; simp; omega) (by have := HH.out.n34; omega)).trans ((set_heap (by have := HH.out.n34; have := HH.out.n4; simp; omega) (by have := HH.out.n34; omega)).trans (((HH.out.k3.alloc _).alloc _).alloc _))))))
        have hb4 : w.heap.size ≤ b4 := by have := HH.out.n34; have := HH.out.n13; have := HH.out.e1; omega
        have hbu : Below w.heap.size w u := by rw [hu]; exact ((((((((HH.out.bel.alloc (by have := HH.out.bel.size; simp; omega) _).alloc (by have := HH.out.bel.size; simp; omega) _).alloc (by have := HH.out.bel.size; simp; omega) _).setCell hb4 _).setCell hb4 _).setCell hb4 _).setCell hb4 _).setCell hb4 _)
        rw [← hT2] at hT2'
        have HI2 : Hid ((Try.prog.info? 28).map (·.size) = some T2.length) := by show _ = _; rw [← hT2', HI.out, HT.out]; try rfl
        have HO2 : Hid (T2.toArray.all (·.oneCell') = true) := by show _ = _; rw [← hT2']; simp; repeat' (first | rfl | constructor)
        have HZ2 : Hid (Z.length = T2.length) := by show _ = _; rw [HZL.out, ← hT2', HT.out]; try rfl
        have HK4 := Lib.hid hk4; have HK3 := Lib.hid hk3; have HBU := Lib.hid hbu; have HT2 := Lib.hid hT2'
        have hb3 : w.heap.size ≤ b3 := by have := HH.out.n13; have := HH.out.e1; omega
        have HB3 := Lib.hid hb3
        clear hT2 hu hk4 hk3 hbu hT2' hb4 hb3 x0_0 x0_1 x0_5 x0_6 x1_9 x2_12 f4_1 g1_1 g1_5 g1_6 g1_9 g1_12 f4_2 g2_1 g2_5 g2_6 g2_9 g2_12 f4_3 g3_1 g3_5 g3_6 g3_9 g3_12
        refine wp_region_still_tail 3 (by kernel_rfl) (by kernel_rfl) ?_
        simp only [List.take_succ_cons, List.take_zero, List.drop_succ_cons, List.drop_zero]
        still_step
        refine wpStill_step (fun K hK => ?_)
        refine still_loadAt (by rfl) 28 (.tmp 4) rfl b4 0 rfl T2 _ (blkR HK4.out) Try.underlying28 rfl HI2.out (hK _ ?_)
        clear hK K
        still_step
        refine wpStill_nil ?_
        change wpList _ _ _ _ _ u.drew
        refine wpList_store_rowTo rfl 28 (.tmp 3) (.tmp 211) rfl rfl b3 T2.toArray rfl rfl 28 Z.toArray HK3.out (by rw [HI2.out]; simp) (by simp [HZ2.out]) HO2.out ?_
        go_wp2_with fail
        have hfin : (u.drew.setRow b3 T2.toArray).heap[b3]? = some (.cells T2.toArray 28 (0, 0)) := setRow_heap u.drew _ _ _ _ _ HK3.out
        refine bodyPost_ret (results_tmp_cell rfl _ (u.drew.setRow b3 T2.toArray) b3 28 T2.toArray (0, 0) _ rfl hfin Try.underlying28 rfl (by rw [HI2.out]; simp)) rfl ⟨?_, ?_⟩
        · rw [HQ0.out, HQ1.out, HQ2.out, HT2.out]; first | rfl | simp
        · exact below_setRow HBU.out.drew HB3.out _
      · skip
        go_upto_region 32 with (first
            | (go_at_call_of 18 (Value.int .i64 65535); refine (fit_newB 65535 [n1, n5, n6] _ _ rfl 3 rfl (by decide) HQ0.out).mono ?_; rintro e w2 ⟨rfl, rfl⟩)
            | (go_at_call_of 18 (Value.int .i64 255); refine (fit_blkB (ys := []) 255 [n9] _ _ 1 (blk_new1 wd _  [.int .i64 n9]) rfl (by decide) HQ1.out).mono ?_; rintro e w2 ⟨rfl, rfl⟩)
            | (go_at_call_of 18 (Value.int .i64 16777215); refine (fit_blkB (ys := []) 16777215 [(l12 : Int)] _ _ 1 (blk_new2 wd _ _  [.int .i64 (l12 : Int)]) rfl (by decide) HQ2.out).mono ?_; rintro e w2 ⟨rfl, rfl⟩))
        obtain ⟨u, hu⟩ : ∃ u, u = ((((((((wd.alloc (.cells #[.int .i64 n1, .int .i64 n5, .int .i64 n6] 3)).alloc (.cells #[.int .i64 n9] 3)).alloc (.cells #[.int .i64 (l12 : Int)] 3)).setCell ⟨b4, 1, none⟩ (.int .i64 0)).setCell ⟨b4, 5, none⟩ (.int .i64 0)).setCell ⟨b4, 6, none⟩ (.int .i64 0)).setCell ⟨b4, 9, none⟩ (.int .i64 0)).setCell ⟨b4, 12, none⟩ (.slice none 0 0)) := ⟨_, rfl⟩
        rw [← hu]
        have hT2' : [.int .i64 20, .int .i64 0, .int .i64 n2, .int .i64 n3, .int .i64 n4, .int .i64 0, .int .i64 0, .int .i64 n7, .int .i64 n8, .int .i64 0, .int .i64 n10, .int .i64 n11, .slice none 0 0, .slice a13 l13 c13, .slice a14 l14 c14, .slice a15 l15 c15, .slice a16 l16 c16, .slice a17 l17 c17] = (((((T.set 1 (.int .i64 0)).set 5 (.int .i64 0)).set 6 (.int .i64 0)).set 9 (.int .i64 0)).set 12 (.slice none 0 0)) := by rw [HT.out]; try rfl
        obtain ⟨T2, hT2⟩ : ∃ T2 : List Value, T2 = (((((T.set 1 (.int .i64 0)).set 5 (.int .i64 0)).set 6 (.int .i64 0)).set 9 (.int .i64 0)).set 12 (.slice none 0 0)) := ⟨_, rfl⟩
        have hk4 : Blk u b4 28 T2 := by rw [hu, hT2]; exact ((((((((HH.out.k4.alloc _).alloc _).alloc _).set_ 1 _).set_ 5 _).set_ 6 _).set_ 9 _).set_ 12 _)
        have hk3 : Blk u b3 28 Z := by rw [hu]; exact ((set_heap (by have := HH.out.n34; have := HH.out.n4; simp; omega) (by have := HH.out.n34; omega)).trans ((set_heap (by have := HH.out.n34; have := HH.out.n4; simp; omega) (by have := HH.out.n34; omega)).trans ((set_heap (by have := HH.out.n34; have := HH.out.n4; simp; omega) (by have := HH.out.n34; omega)).trans ((set_heap (by have := HH.out.n34; have := HH.out.n4; simp; omega) (by have := HH.out.n34; omega)).trans ((set_heap (by have := HH.out.n34; have := HH.out.n4; simp; omega) (by have := HH.out.n34; omega)).trans (((HH.out.k3.alloc _).alloc _).alloc _))))))
        have hb4 : w.heap.size ≤ b4 := by have := HH.out.n34; have := HH.out.n13; have := HH.out.e1; omega
        have hbu : Below w.heap.size w u := by rw [hu]; exact ((((((((HH.out.bel.alloc (by have := HH.out.bel.size; simp; omega) _).alloc (by have := HH.out.bel.size; simp; omega) _).alloc (by have := HH.out.bel.size; simp; omega) _).setCell hb4 _).setCell hb4 _).setCell hb4 _).setCell hb4 _).setCell hb4 _)
        rw [← hT2] at hT2'
        have HI2 : Hid ((Try.prog.info? 28).map (·.size) = some T2.length) := by show _ = _; rw [← hT2', HI.out, HT.out]; try rfl
        have HO2 : Hid (T2.toArray.all (·.oneCell') = true) := by show _ = _; rw [← hT2']; simp; repeat' (first | rfl | constructor)
        have HZ2 : Hid (Z.length = T2.length) := by show _ = _; rw [HZL.out, ← hT2', HT.out]; try rfl
        have HK4 := Lib.hid hk4; have HK3 := Lib.hid hk3; have HBU := Lib.hid hbu; have HT2 := Lib.hid hT2'
        have hb3 : w.heap.size ≤ b3 := by have := HH.out.n13; have := HH.out.e1; omega
        have HB3 := Lib.hid hb3
        clear hT2 hu hk4 hk3 hbu hT2' hb4 hb3 x0_0 x0_1 x0_5 x0_6 x1_9 x2_12 f4_1 g1_1 g1_5 g1_6 g1_9 g1_12 f4_2 g2_1 g2_5 g2_6 g2_9 g2_12 f4_3 g3_1 g3_5 g3_6 g3_9 g3_12
        refine wp_region_still_tail 3 (by kernel_rfl) (by kernel_rfl) ?_
        simp only [List.take_succ_cons, List.take_zero, List.drop_succ_cons, List.drop_zero]
        still_step
        refine wpStill_step (fun K hK => ?_)
        refine still_loadAt (by rfl) 28 (.tmp 4) rfl b4 0 rfl T2 _ (blkR HK4.out) Try.underlying28 rfl HI2.out (hK _ ?_)
        clear hK K
        still_step
        refine wpStill_nil ?_
        change wpList _ _ _ _ _ u.drew
        refine wpList_store_rowTo rfl 28 (.tmp 3) (.tmp 211) rfl rfl b3 T2.toArray rfl rfl 28 Z.toArray HK3.out (by rw [HI2.out]; simp) (by simp [HZ2.out]) HO2.out ?_
        go_wp2_with fail
        have hfin : (u.drew.setRow b3 T2.toArray).heap[b3]? = some (.cells T2.toArray 28 (0, 0)) := setRow_heap u.drew _ _ _ _ _ HK3.out
        refine bodyPost_ret (results_tmp_cell rfl _ (u.drew.setRow b3 T2.toArray) b3 28 T2.toArray (0, 0) _ rfl hfin Try.underlying28 rfl (by rw [HI2.out]; simp)) rfl ⟨?_, ?_⟩
        · rw [HQ0.out, HQ1.out, HQ2.out, HT2.out]; first | rfl | simp
        · exact below_setRow HBU.out.drew HB3.out _
set_option maxRecDepth 100000 in
set_option maxHeartbeats 16000000 in
theorem sp_sound_24 (n1 n2 n3 n4 n5 n6 n7 n8 n9 n10 n11 : Int) (a12 a13 a14 a15 a16 a17 : Option Addr) (l12 l13 l14 l15 l16 l17 c12 c13 c14 c15 c16 c17 : Nat) (w : World) :
    Calls Try.prog 19 #[.agg #[.int .i64 24, .int .i64 n1, .int .i64 n2, .int .i64 n3, .int .i64 n4, .int .i64 n5, .int .i64 n6, .int .i64 n7, .int .i64 n8, .int .i64 n9, .int .i64 n10, .int .i64 n11, .slice a12 l12 c12, .slice a13 l13 c13, .slice a14 l14 c14, .slice a15 l15 c15, .slice a16 l16 c16, .slice a17 l17 c17]] w
      (SndR (fitS 65535 [n1] && (fitS 16777215 [n10] && (fitS 255 [n11] && (fitS 4294967295 [n8] && (fitS 1048576 [(l12 : Int)]))))) [.int .i64 24, .int .i64 0, .int .i64 n2, .int .i64 n3, .int .i64 n4, .int .i64 n5, .int .i64 n6, .int .i64 n7, .int .i64 0, .int .i64 n9, .int .i64 0, .int .i64 0, .slice none 0 0, .slice a13 l13 c13, .slice a14 l14 c14, .slice a15 l15 c15, .slice a16 l16 c16, .slice a17 l17 c17] w) := by
  obtain ⟨T, hT⟩ : ∃ T : List Value, T = [.int .i64 24, .int .i64 n1, .int .i64 n2, .int .i64 n3, .int .i64 n4, .int .i64 n5, .int .i64 n6, .int .i64 n7, .int .i64 n8, .int .i64 n9, .int .i64 n10, .int .i64 n11, .slice a12 l12 c12, .slice a13 l13 c13, .slice a14 l14 c14, .slice a15 l15 c15, .slice a16 l16 c16, .slice a17 l17 c17] := ⟨_, rfl⟩
  have hA : (#[.int .i64 24, .int .i64 n1, .int .i64 n2, .int .i64 n3, .int .i64 n4, .int .i64 n5, .int .i64 n6, .int .i64 n7, .int .i64 n8, .int .i64 n9, .int .i64 n10, .int .i64 n11, .slice a12 l12 c12, .slice a13 l13 c13, .slice a14 l14 c14, .slice a15 l15 c15, .slice a16 l16 c16, .slice a17 l17 c17] : Array Value) = T.toArray := by rw [hT]
  obtain ⟨Z, hZ⟩ : ∃ Z : List Value, Z = [.int .i64 0, .int .i64 0, .int .i64 0, .int .i64 0, .int .i64 0, .int .i64 0, .int .i64 0, .int .i64 0, .int .i64 0, .int .i64 0, .int .i64 0, .int .i64 0, .slice none 0 0, .slice none 0 0, .slice none 0 0, .slice none 0 0, .slice none 0 0, .slice none 0 0] := ⟨_, rfl⟩
  obtain ⟨wa, wb, wd, b1, b3, b4, H⟩ := laid3 w T Z
  have HH := Lib.hid H
  have hlen : T.length = 18 := by rw [hT]; rfl
  have HI : Hid ((Try.prog.info? 28).map (·.size) = some T.length) := by show _ = _; rw [hlen]; exact infoBlkS
  have HO : Hid (T.toArray.all (·.oneCell') = true) := by show _ = _; rw [hT]; simp; repeat' (first | rfl | constructor)
  have HZ : Hid ((Try.prog.info? 28).bind (·.zero) = some (.agg Z.toArray)) := by show _ = _; rw [hZ]; kernel_rfl
  have HZL : Hid (Z.length = T.length) := by show _ = _; rw [hZ, hT]; rfl
  have x0_0 : wd.cell? ⟨b1, 0, none⟩ = some (.int .i64 24) := by have := H.k1; rw [hT] at this; exact this.cell 0
  have x0_1 : wd.cell? ⟨b1, 1, none⟩ = some (.int .i64 n1) := by have := H.k1; rw [hT] at this; exact this.cell 1
  have x1_10 : ∀ (p : Obj), (wd.alloc p).cell? ⟨b1, 10, none⟩ = some (.int .i64 n10) := fun p => by have := H.k1; rw [hT] at this; exact (this.alloc _).cell 10
  have x2_11 : ∀ (p q : Obj), ((wd.alloc p).alloc q).cell? ⟨b1, 11, none⟩ = some (.int .i64 n11) := fun p q => by have := H.k1; rw [hT] at this; exact ((this.alloc _).alloc _).cell 11
  have x3_8 : ∀ (p q r : Obj), (((wd.alloc p).alloc q).alloc r).cell? ⟨b1, 8, none⟩ = some (.int .i64 n8) := fun p q r => by have := H.k1; rw [hT] at this; exact (((this.alloc _).alloc _).alloc _).cell 8
  have x4_12 : ∀ (p q r s : Obj), ((((wd.alloc p).alloc q).alloc r).alloc s).cell? ⟨b1, 12, none⟩ = some (.slice a12 l12 c12) := fun p q r s => by have := H.k1; rw [hT] at this; exact ((((this.alloc _).alloc _).alloc _).alloc _).cell 12
  have f4_1 : ∀ (p : Obj), ∀ i : Nat, (wd.alloc p).frozen? ⟨b4, i, none⟩ = false := fun p => fun i => ((H.k4.alloc _)).frozen i
  have g1_1 : ∀ (p : Obj), (wd.alloc p).cell? ⟨b4, 1, none⟩ = some (.int .i64 n1) := fun p => by have := H.k4; rw [hT] at this; exact (this.alloc _).cell 1
  have g1_10 : ∀ (p : Obj), (wd.alloc p).cell? ⟨b4, 10, none⟩ = some (.int .i64 n10) := fun p => by have := H.k4; rw [hT] at this; exact (this.alloc _).cell 10
  have g1_11 : ∀ (p : Obj), (wd.alloc p).cell? ⟨b4, 11, none⟩ = some (.int .i64 n11) := fun p => by have := H.k4; rw [hT] at this; exact (this.alloc _).cell 11
  have g1_8 : ∀ (p : Obj), (wd.alloc p).cell? ⟨b4, 8, none⟩ = some (.int .i64 n8) := fun p => by have := H.k4; rw [hT] at this; exact (this.alloc _).cell 8
  have g1_12 : ∀ (p : Obj), (wd.alloc p).cell? ⟨b4, 12, none⟩ = some (.slice a12 l12 c12) := fun p => by have := H.k4; rw [hT] at this; exact (this.alloc _).cell 12
  have f4_2 : ∀ (p q : Obj), ∀ i : Nat, ((wd.alloc p).alloc q).frozen? ⟨b4, i, none⟩ = false := fun p q => fun i => (((H.k4.alloc _).alloc _)).frozen i
  have g2_1 : ∀ (p q : Obj), ((wd.alloc p).alloc q).cell? ⟨b4, 1, none⟩ = some (.int .i64 n1) := fun p q => by have := H.k4; rw [hT] at this; exact ((this.alloc _).alloc _).cell 1
  have g2_10 : ∀ (p q : Obj), ((wd.alloc p).alloc q).cell? ⟨b4, 10, none⟩ = some (.int .i64 n10) := fun p q => by have := H.k4; rw [hT] at this; exact ((this.alloc _).alloc _).cell 10
  have g2_11 : ∀ (p q : Obj), ((wd.alloc p).alloc q).cell? ⟨b4, 11, none⟩ = some (.int .i64 n11) := fun p q => by have := H.k4; rw [hT] at this; exact ((this.alloc _).alloc _).cell 11
  have g2_8 : ∀ (p q : Obj), ((wd.alloc p).alloc q).cell? ⟨b4, 8, none⟩ = some (.int .i64 n8) := fun p q => by have := H.k4; rw [hT] at this; exact ((this.alloc _).alloc _).cell 8
  have g2_12 : ∀ (p q : Obj), ((wd.alloc p).alloc q).cell? ⟨b4, 12, none⟩ = some (.slice a12 l12 c12) := fun p q => by have := H.k4; rw [hT] at this; exact ((this.alloc _).alloc _).cell 12
  have f4_3 : ∀ (p q r : Obj), ∀ i : Nat, (((wd.alloc p).alloc q).alloc r).frozen? ⟨b4, i, none⟩ = false := fun p q r => fun i => ((((H.k4.alloc _).alloc _).alloc _)).frozen i
  have g3_1 : ∀ (p q r : Obj), (((wd.alloc p).alloc q).alloc r).cell? ⟨b4, 1, none⟩ = some (.int .i64 n1) := fun p q r => by have := H.k4; rw [hT] at this; exact (((this.alloc _).alloc _).alloc _).cell 1
  have g3_10 : ∀ (p q r : Obj), (((wd.alloc p).alloc q).alloc r).cell? ⟨b4, 10, none⟩ = some (.int .i64 n10) := fun p q r => by have := H.k4; rw [hT] at this; exact (((this.alloc _).alloc _).alloc _).cell 10
  have g3_11 : ∀ (p q r : Obj), (((wd.alloc p).alloc q).alloc r).cell? ⟨b4, 11, none⟩ = some (.int .i64 n11) := fun p q r => by have := H.k4; rw [hT] at this; exact (((this.alloc _).alloc _).alloc _).cell 11
  have g3_8 : ∀ (p q r : Obj), (((wd.alloc p).alloc q).alloc r).cell? ⟨b4, 8, none⟩ = some (.int .i64 n8) := fun p q r => by have := H.k4; rw [hT] at this; exact (((this.alloc _).alloc _).alloc _).cell 8
  have g3_12 : ∀ (p q r : Obj), (((wd.alloc p).alloc q).alloc r).cell? ⟨b4, 12, none⟩ = some (.slice a12 l12 c12) := fun p q r => by have := H.k4; rw [hT] at this; exact (((this.alloc _).alloc _).alloc _).cell 12
  have f4_4 : ∀ (p q r s : Obj), ∀ i : Nat, ((((wd.alloc p).alloc q).alloc r).alloc s).frozen? ⟨b4, i, none⟩ = false := fun p q r s => fun i => (((((H.k4.alloc _).alloc _).alloc _).alloc _)).frozen i
  have g4_1 : ∀ (p q r s : Obj), ((((wd.alloc p).alloc q).alloc r).alloc s).cell? ⟨b4, 1, none⟩ = some (.int .i64 n1) := fun p q r s => by have := H.k4; rw [hT] at this; exact ((((this.alloc _).alloc _).alloc _).alloc _).cell 1
  have g4_10 : ∀ (p q r s : Obj), ((((wd.alloc p).alloc q).alloc r).alloc s).cell? ⟨b4, 10, none⟩ = some (.int .i64 n10) := fun p q r s => by have := H.k4; rw [hT] at this; exact ((((this.alloc _).alloc _).alloc _).alloc _).cell 10
  have g4_11 : ∀ (p q r s : Obj), ((((wd.alloc p).alloc q).alloc r).alloc s).cell? ⟨b4, 11, none⟩ = some (.int .i64 n11) := fun p q r s => by have := H.k4; rw [hT] at this; exact ((((this.alloc _).alloc _).alloc _).alloc _).cell 11
  have g4_8 : ∀ (p q r s : Obj), ((((wd.alloc p).alloc q).alloc r).alloc s).cell? ⟨b4, 8, none⟩ = some (.int .i64 n8) := fun p q r s => by have := H.k4; rw [hT] at this; exact ((((this.alloc _).alloc _).alloc _).alloc _).cell 8
  have g4_12 : ∀ (p q r s : Obj), ((((wd.alloc p).alloc q).alloc r).alloc s).cell? ⟨b4, 12, none⟩ = some (.slice a12 l12 c12) := fun p q r s => by have := H.k4; rw [hT] at this; exact ((((this.alloc _).alloc _).alloc _).alloc _).cell 12
  have f4_5 : ∀ (p q r s t : Obj), ∀ i : Nat, (((((wd.alloc p).alloc q).alloc r).alloc s).alloc t).frozen? ⟨b4, i, none⟩ = false := fun p q r s t => fun i => ((((((H.k4.alloc _).alloc _).alloc _).alloc _).alloc _)).frozen i
  have g5_1 : ∀ (p q r s t : Obj), (((((wd.alloc p).alloc q).alloc r).alloc s).alloc t).cell? ⟨b4, 1, none⟩ = some (.int .i64 n1) := fun p q r s t => by have := H.k4; rw [hT] at this; exact (((((this.alloc _).alloc _).alloc _).alloc _).alloc _).cell 1
  have g5_10 : ∀ (p q r s t : Obj), (((((wd.alloc p).alloc q).alloc r).alloc s).alloc t).cell? ⟨b4, 10, none⟩ = some (.int .i64 n10) := fun p q r s t => by have := H.k4; rw [hT] at this; exact (((((this.alloc _).alloc _).alloc _).alloc _).alloc _).cell 10
  have g5_11 : ∀ (p q r s t : Obj), (((((wd.alloc p).alloc q).alloc r).alloc s).alloc t).cell? ⟨b4, 11, none⟩ = some (.int .i64 n11) := fun p q r s t => by have := H.k4; rw [hT] at this; exact (((((this.alloc _).alloc _).alloc _).alloc _).alloc _).cell 11
  have g5_8 : ∀ (p q r s t : Obj), (((((wd.alloc p).alloc q).alloc r).alloc s).alloc t).cell? ⟨b4, 8, none⟩ = some (.int .i64 n8) := fun p q r s t => by have := H.k4; rw [hT] at this; exact (((((this.alloc _).alloc _).alloc _).alloc _).alloc _).cell 8
  have g5_12 : ∀ (p q r s t : Obj), (((((wd.alloc p).alloc q).alloc r).alloc s).alloc t).cell? ⟨b4, 12, none⟩ = some (.slice a12 l12 c12) := fun p q r s t => by have := H.k4; rw [hT] at this; exact (((((this.alloc _).alloc _).alloc _).alloc _).alloc _).cell 12
  obtain ⟨q0, hq0⟩ : ∃ q, fitS 65535 [n1] = q := ⟨_, rfl⟩
  have HQ0 := Lib.hid hq0
  clear hq0
  obtain ⟨q1, hq1⟩ : ∃ q, fitS 16777215 [n10] = q := ⟨_, rfl⟩
  have HQ1 := Lib.hid hq1
  clear hq1
  obtain ⟨q2, hq2⟩ : ∃ q, fitS 255 [n11] = q := ⟨_, rfl⟩
  have HQ2 := Lib.hid hq2
  clear hq2
  obtain ⟨q3, hq3⟩ : ∃ q, fitS 4294967295 [n8] = q := ⟨_, rfl⟩
  have HQ3 := Lib.hid hq3
  clear hq3
  obtain ⟨q4, hq4⟩ : ∃ q, fitS 1048576 [(l12 : Int)] = q := ⟨_, rfl⟩
  have HQ4 := Lib.hid hq4
  clear hq4
  have HT := Lib.hid hT
  rw [hA]
  clear hT hA H hlen hZ
  go_enter Try.func19, Try.ntmps19
  go_upto_region 2 with (first
    | (refine Great.wpList_boxTo rfl 28 (.tmp 0) rfl (some 1) rfl b1 HH.out.e1 T.toArray rfl ?_; rw [HH.out.ea])
    | (refine wpList_allocToS rfl 28 rfl (some 3) rfl b3 HH.out.e3 (.agg Z.toArray) HZ.out ?_; rw [show (Value.agg Z.toArray).cells = Z.toArray from rfl, HH.out.eb])
    | (refine wpList_load_mid rfl 28 (.tmp 1) rfl b1 0 rfl T _ (blkR HH.out.kb) Try.underlying28 rfl HI.out ?_)
    | (refine wpList_allocToS rfl 28 rfl (some 4) rfl b4 HH.out.e4 (.agg Z.toArray) HZ.out ?_; rw [show (Value.agg Z.toArray).cells = Z.toArray from rfl])
    | (refine wpList_store_rowTo rfl 28 (.tmp 4) (.tmp 6) rfl rfl b4 T.toArray rfl rfl 28 _ (by rw [← HH.out.e4]; exact heap_alloc_new wb _) (by rw [HI.out]; simp) (by simp [HZL.out]) HO.out ?_; rw [← HH.out.e4, World.setRow_alloc_new, HH.out.e4, HH.out.ed]))
  cases q0
  · go_upto_region 32 with (first
        | (go_at_call_of 18 (Value.int .i64 65535); refine (fit_newB 65535 [n1] _ _ rfl 1 rfl (by decide) HQ0.out).mono ?_; rintro e w2 ⟨rfl, rfl⟩))
    obtain ⟨u, hu⟩ : ∃ u, u = ((((((wd.alloc (.cells #[.int .i64 n1] 3)).setCell ⟨b4, 1, none⟩ (.int .i64 0)).setCell ⟨b4, 10, none⟩ (.int .i64 0)).setCell ⟨b4, 11, none⟩ (.int .i64 0)).setCell ⟨b4, 8, none⟩ (.int .i64 0)).setCell ⟨b4, 12, none⟩ (.slice none 0 0)) := ⟨_, rfl⟩
    rw [← hu]
    have hT2' : [.int .i64 24, .int .i64 0, .int .i64 n2, .int .i64 n3, .int .i64 n4, .int .i64 n5, .int .i64 n6, .int .i64 n7, .int .i64 0, .int .i64 n9, .int .i64 0, .int .i64 0, .slice none 0 0, .slice a13 l13 c13, .slice a14 l14 c14, .slice a15 l15 c15, .slice a16 l16 c16, .slice a17 l17 c17] = (((((T.set 1 (.int .i64 0)).set 10 (.int .i64 0)).set 11 (.int .i64 0)).set 8 (.int .i64 0)).set 12 (.slice none 0 0)) := by rw [HT.out]; try rfl
    obtain ⟨T2, hT2⟩ : ∃ T2 : List Value, T2 = (((((T.set 1 (.int .i64 0)).set 10 (.int .i64 0)).set 11 (.int .i64 0)).set 8 (.int .i64 0)).set 12 (.slice none 0 0)) := ⟨_, rfl⟩
    have hk4 : Blk u b4 28 T2 := by rw [hu, hT2]; exact ((((((HH.out.k4.alloc _).set_ 1 _).set_ 10 _).set_ 11 _).set_ 8 _).set_ 12 _)
    have hk3 : Blk u b3 28 Z := by rw [hu]; exact ((set_heap (by have := HH.out.n34; have := HH.out.n4; simp; omega) (by have := HH.out.n34; omega)).trans ((set_heap (by have := HH.out.n34; have := HH.out.n4; simp; omega) (by have := HH.out.n34; omega)).trans ((set_heap (by have := HH.out.n34; have := HH.out.n4; simp; omega) (by have := HH.out.n34; omega)).trans ((set_heap (by have := HH.out.n34; have := HH.out.n4; simp; omega) (by have := HH.out.n34; omega)).trans ((set_heap (by have := HH.out.n34; have := HH.out.n4; simp; omega) (by have := HH.out.n34; omega)).trans (HH.out.k3.alloc _))))))
    have hb4 : w.heap.size ≤ b4 := by have := HH.out.n34; have := HH.out.n13; have := HH.out.e1; omega
    have hbu : Below w.heap.size w u := by rw [hu]; exact ((((((HH.out.bel.alloc (by have := HH.out.bel.size; simp; omega) _).setCell hb4 _).setCell hb4 _).setCell hb4 _).setCell hb4 _).setCell hb4 _)
    rw [← hT2] at hT2'
    have HI2 : Hid ((Try.prog.info? 28).map (·.size) = some T2.length) := by show _ = _; rw [← hT2', HI.out, HT.out]; try rfl
    have HO2 : Hid (T2.toArray.all (·.oneCell') = true) := by show _ = _; rw [← hT2']; simp; repeat' (first | rfl | constructor)
    have HZ2 : Hid (Z.length = T2.length) := by show _ = _; rw [HZL.out, ← hT2', HT.out]; try rfl
    have HK4 := Lib.hid hk4; have HK3 := Lib.hid hk3; have HBU := Lib.hid hbu; have HT2 := Lib.hid hT2'
    have hb3 : w.heap.size ≤ b3 := by have := HH.out.n13; have := HH.out.e1; omega
    have HB3 := Lib.hid hb3
    clear hT2 hu hk4 hk3 hbu hT2' hb4 hb3 x0_0 x0_1 x1_10 x2_11 x3_8 x4_12 f4_1 g1_1 g1_10 g1_11 g1_8 g1_12 f4_2 g2_1 g2_10 g2_11 g2_8 g2_12 f4_3 g3_1 g3_10 g3_11 g3_8 g3_12 f4_4 g4_1 g4_10 g4_11 g4_8 g4_12 f4_5 g5_1 g5_10 g5_11 g5_8 g5_12
    refine wp_region_still_tail 3 (by kernel_rfl) (by kernel_rfl) ?_
    simp only [List.take_succ_cons, List.take_zero, List.drop_succ_cons, List.drop_zero]
    still_step
    refine wpStill_step (fun K hK => ?_)
    refine still_loadAt (by rfl) 28 (.tmp 4) rfl b4 0 rfl T2 _ (blkR HK4.out) Try.underlying28 rfl HI2.out (hK _ ?_)
    clear hK K
    still_step
    refine wpStill_nil ?_
    change wpList _ _ _ _ _ u.drew
    refine wpList_store_rowTo rfl 28 (.tmp 3) (.tmp 211) rfl rfl b3 T2.toArray rfl rfl 28 Z.toArray HK3.out (by rw [HI2.out]; simp) (by simp [HZ2.out]) HO2.out ?_
    go_wp2_with fail
    have hfin : (u.drew.setRow b3 T2.toArray).heap[b3]? = some (.cells T2.toArray 28 (0, 0)) := setRow_heap u.drew _ _ _ _ _ HK3.out
    refine bodyPost_ret (results_tmp_cell rfl _ (u.drew.setRow b3 T2.toArray) b3 28 T2.toArray (0, 0) _ rfl hfin Try.underlying28 rfl (by rw [HI2.out]; simp)) rfl ⟨?_, ?_⟩
    · rw [HQ0.out, HT2.out]; first | rfl | simp
    · exact below_setRow HBU.out.drew HB3.out _
  · skip
    cases q1
    · go_upto_region 32 with (first
          | (go_at_call_of 18 (Value.int .i64 65535); refine (fit_newB 65535 [n1] _ _ rfl 1 rfl (by decide) HQ0.out).mono ?_; rintro e w2 ⟨rfl, rfl⟩)
          | (go_at_call_of 18 (Value.int .i64 16777215); refine (fit_blkB (ys := []) 16777215 [n10] _ _ 1 (blk_new1 wd _  [.int .i64 n10]) rfl (by decide) HQ1.out).mono ?_; rintro e w2 ⟨rfl, rfl⟩))
      obtain ⟨u, hu⟩ : ∃ u, u = (((((((wd.alloc (.cells #[.int .i64 n1] 3)).alloc (.cells #[.int .i64 n10] 3)).setCell ⟨b4, 1, none⟩ (.int .i64 0)).setCell ⟨b4, 10, none⟩ (.int .i64 0)).setCell ⟨b4, 11, none⟩ (.int .i64 0)).setCell ⟨b4, 8, none⟩ (.int .i64 0)).setCell ⟨b4, 12, none⟩ (.slice none 0 0)) := ⟨_, rfl⟩
      rw [← hu]
      have hT2' : [.int .i64 24, .int .i64 0, .int .i64 n2, .int .i64 n3, .int .i64 n4, .int .i64 n5, .int .i64 n6, .int .i64 n7, .int .i64 0, .int .i64 n9, .int .i64 0, .int .i64 0, .slice none 0 0, .slice a13 l13 c13, .slice a14 l14 c14, .slice a15 l15 c15, .slice a16 l16 c16, .slice a17 l17 c17] = (((((T.set 1 (.int .i64 0)).set 10 (.int .i64 0)).set 11 (.int .i64 0)).set 8 (.int .i64 0)).set 12 (.slice none 0 0)) := by rw [HT.out]; try rfl
      obtain ⟨T2, hT2⟩ : ∃ T2 : List Value, T2 = (((((T.set 1 (.int .i64 0)).set 10 (.int .i64 0)).set 11 (.int .i64 0)).set 8 (.int .i64 0)).set 12 (.slice none 0 0)) := ⟨_, rfl⟩
      have hk4 : Blk u b4 28 T2 := by rw [hu, hT2]; exact (((((((HH.out.k4.alloc _).alloc _).set_ 1 _).set_ 10 _).set_ 11 _).set_ 8 _).set_ 12 _)
      have hk3 : Blk u b3 28 Z := by rw [hu]; exact ((set_heap (by have := HH.out.n34; have := HH.out.n4; simp; omega) (by have := HH.out.n34; omega)).trans ((set_heap (by have := HH.out.n34; have := HH.out.n4; simp; omega) (by have := HH.out.n34; omega)).trans ((set_heap (by have := HH.out.n34; have := HH.out.n4; simp; omega) (by have := HH.out.n34; omega)).trans ((set_heap (by have := HH.out.n34; have := HH.out.n4; simp; omega) (by have := HH.out.n34; omega)).trans ((set_heap (by have := HH.out.n34; have := HH.out.n4; simp; omega) (by have := HH.out.n34; omega)).trans ((HH.out.k3.alloc _).alloc _))))))
      have hb4 : w.heap.size ≤ b4 := by have := HH.out.n34; have := HH.out.n13; have := HH.out.e1; omega
      have hbu : Below w.heap.size w u := by rw [hu]; exact (((((((HH.out.bel.alloc (by have := HH.out.bel.size; simp; omega) _).alloc (by have := HH.out.bel.size; simp; omega) _).setCell hb4 _).setCell hb4 _).setCell hb4 _).setCell hb4 _).setCell hb4 _)
      rw [← hT2] at hT2'
      have HI2 : Hid ((Try.prog.info? 28).map (·.size) = some T2.length) := by show _ = _; rw [← hT2', HI.out, HT.out]; try rfl
      have HO2 : Hid (T2.toArray.all (·.oneCell') = true) := by show _ = _; rw [← hT2']; simp; repeat' (first | rfl | constructor)
      have HZ2 : Hid (Z.length = T2.length) := by show _ = _; rw [HZL.out, ← hT2', HT.out]; try rfl
      have HK4 := Lib.hid hk4; have HK3 := Lib.hid hk3; have HBU := Lib.hid hbu; have HT2 := Lib.hid hT2'
      have hb3 : w.heap.size ≤ b3 := by have := HH.out.n13; have := HH.out.e1; omega
      have HB3 := Lib.hid hb3
      clear hT2 hu hk4 hk3 hbu hT2' hb4 hb3 x0_0 x0_1 x1_10 x2_11 x3_8 x4_12 f4_1 g1_1 g1_10 g1_11 g1_8 g1_12 f4_2 g2_1 g2_10 g2_11 g2_8 g2_12 f4_3 g3_1 g3_10 g3_11 g3_8 g3_12 f4_4 g4_1 g4_10 g4_11 g4_8 g4_12 f4_5 g5_1 g5_10 g5_11 g5_8 g5_12
      refine wp_region_still_tail 3 (by kernel_rfl) (by kernel_rfl) ?_
      simp only [List.take_succ_cons, List.take_zero, List.drop_succ_cons, List.drop_zero]
      still_step
      refine wpStill_step (fun K hK => ?_)
      refine still_loadAt (by rfl) 28 (.tmp 4) rfl b4 0 rfl T2 _ (blkR HK4.out) Try.underlying28 rfl HI2.out (hK _ ?_)
      clear hK K
      still_step
      refine wpStill_nil ?_
      change wpList _ _ _ _ _ u.drew
      refine wpList_store_rowTo rfl 28 (.tmp 3) (.tmp 211) rfl rfl b3 T2.toArray rfl rfl 28 Z.toArray HK3.out (by rw [HI2.out]; simp) (by simp [HZ2.out]) HO2.out ?_
      go_wp2_with fail
      have hfin : (u.drew.setRow b3 T2.toArray).heap[b3]? = some (.cells T2.toArray 28 (0, 0)) := setRow_heap u.drew _ _ _ _ _ HK3.out
      refine bodyPost_ret (results_tmp_cell rfl _ (u.drew.setRow b3 T2.toArray) b3 28 T2.toArray (0, 0) _ rfl hfin Try.underlying28 rfl (by rw [HI2.out]; simp)) rfl ⟨?_, ?_⟩
      · rw [HQ0.out, HQ1.out, HT2.out]; first | rfl | simp
      · exact below_setRow HBU.out.drew HB3.out _
    · skip
      cases q2
      · go_upto_region 32 with (first
            | (go_at_call_of 18 (Value.int .i64 65535); refine (fit_newB 65535 [n1] _ _ rfl 1 rfl (by decide) HQ0.out).mono ?_; rintro e w2 ⟨rfl, rfl⟩)
            | (go_at_call_of 18 (Value.int .i64 16777215); refine (fit_blkB (ys := []) 16777215 [n10] _ _ 1 (blk_new1 wd _  [.int .i64 n10]) rfl (by decide) HQ1.out).mono ?_; rintro e w2 ⟨rfl, rfl⟩)
            | (go_at_call_of 18 (Value.int .i64 255); refine (fit_blkB (ys := []) 255 [n11] _ _ 1 (blk_new2 wd _ _  [.int .i64 n11]) rfl (by decide) HQ2.out).mono ?_; rintro e w2 ⟨rfl, rfl⟩))
        obtain ⟨u, hu⟩ : ∃ u, u = ((((((((wd.alloc (.cells #[.int .i64 n1] 3)).alloc (.cells #[.int .i64 n10] 3)).alloc (.cells #[.int .i64 n11] 3)).setCell ⟨b4, 1, none⟩ (.int .i64 0)).setCell ⟨b4, 10, none⟩ (.int .i64 0)).setCell ⟨b4, 11, none⟩ (.int .i64 0)).setCell ⟨b4, 8, none⟩ (.int .i64 0)).setCell ⟨b4, 12, none⟩ (.slice none 0 0)) := ⟨_, rfl⟩
        rw [← hu]
        have hT2' : [.int .i64 24, .int .i64 0, .int .i64 n2, .int .i64 n3, .int .i64 n4, .int .i64 n5, .int .i64 n6, .int .i64 n7, .int .i64 0, .int .i64 n9, .int .i64 0, .int .i64 0, .slice none 0 0, .slice a13 l13 c13, .slice a14 l14 c14, .slice a15 l15 c15, .slice a16 l16 c16, .slice a17 l17 c17] = (((((T.set 1 (.int .i64 0)).set 10 (.int .i64 0)).set 11 (.int .i64 0)).set 8 (.int .i64 0)).set 12 (.slice none 0 0)) := by rw [HT.out]; try rfl
        obtain ⟨T2, hT2⟩ : ∃ T2 : List Value, T2 = (((((T.set 1 (.int .i64 0)).set 10 (.int .i64 0)).set 11 (.int .i64 0)).set 8 (.int .i64 0)).set 12 (.slice none 0 0)) := ⟨_, rfl⟩
        have hk4 : Blk u b4 28 T2 := by rw [hu, hT2]; exact ((((((((HH.out.k4.alloc _).alloc _).alloc _).set_ 1 _).set_ 10 _).set_ 11 _).set_ 8 _).set_ 12 _)
        have hk3 : Blk u b3 28 Z := by rw [hu]; exact ((set_heap (by have := HH.out.n34; have := HH.out.n4; simp; omega) (by have := HH.out.n34; omega)).trans ((set_heap (by have := HH.out.n34; have := HH.out.n4; simp; omega) (by have := HH.out.n34; omega)).trans ((set_heap (by have := HH.out.n34; have := HH.out.n4; simp; omega) (by have := HH.out.n34; omega)).trans ((set_heap (by have := HH.out.n34; have := HH.out.n4; simp; omega) (by have := HH.out.n34; omega)).trans ((set_heap (by have := HH.out.n34; have := HH.out.n4; simp; omega) (by have := HH.out.n34; omega)).trans (((HH.out.k3.alloc _).alloc _).alloc _))))))
        have hb4 : w.heap.size ≤ b4 := by have := HH.out.n34; have := HH.out.n13; have := HH.out.e1; omega
        have hbu : Below w.heap.size w u := by rw [hu]; exact ((((((((HH.out.bel.alloc (by have := HH.out.bel.size; simp; omega) _).alloc (by have := HH.out.bel.size; simp; omega) _).alloc (by have := HH.out.bel.size; simp; omega) _).setCell hb4 _).setCell hb4 _).setCell hb4 _).setCell hb4 _).setCell hb4 _)
        rw [← hT2] at hT2'
        have HI2 : Hid ((Try.prog.info? 28).map (·.size) = some T2.length) := by show _ = _; rw [← hT2', HI.out, HT.out]; try rfl
        have HO2 : Hid (T2.toArray.all (·.oneCell') = true) := by show _ = _; rw [← hT2']; simp; repeat' (first | rfl | constructor)
        have HZ2 : Hid (Z.length = T2.length) := by show _ = _; rw [HZL.out, ← hT2', HT.out]; try rfl
        have HK4 := Lib.hid hk4; have HK3 := Lib.hid hk3; have HBU := Lib.hid hbu; have HT2 := Lib.hid hT2'
        have hb3 : w.heap.size ≤ b3 := by have := HH.out.n13; have := HH.out.e1; omega
        have HB3 := Lib.hid hb3
        clear hT2 hu hk4 hk3 hbu hT2' hb4 hb3 x0_0 x0_1 x1_10 x2_11 x3_8 x4_12 f4_1 g1_1 g1_10 g1_11 g1_8 g1_12 f4_2 g2_1 g2_10 g2_11 g2_8 g2_12 f4_3 g3_1 g3_10 g3_11 g3_8 g3_12 f4_4 g4_1 g4_10 g4_11 g4_8 g4_12 f4_5 g5_1 g5_10 g5_11 g5_8 g5_12
        refine wp_region_still_tail 3 (by kernel_rfl) (by kernel_rfl) ?_
        simp only [List.take_succ_cons, List.take_zero, List.drop_succ_cons, List.drop_zero]
        still_step
        refine wpStill_step (fun K hK => ?_)
        refine still_loadAt (by rfl) 28 (.tmp 4) rfl b4 0 rfl T2 _ (blkR HK4.out) Try.underlying28 rfl HI2.out (hK _ ?_)
        clear hK K
        still_step
        refine wpStill_nil ?_
        change wpList _ _ _ _ _ u.drew
        refine wpList_store_rowTo rfl 28 (.tmp 3) (.tmp 211) rfl rfl b3 T2.toArray rfl rfl 28 Z.toArray HK3.out (by rw [HI2.out]; simp) (by simp [HZ2.out]) HO2.out ?_
        go_wp2_with fail
        have hfin : (u.drew.setRow b3 T2.toArray).heap[b3]? = some (.cells T2.toArray 28 (0, 0)) := setRow_heap u.drew _ _ _ _ _ HK3.out
        refine bodyPost_ret (results_tmp_cell rfl _ (u.drew.setRow b3 T2.toArray) b3 28 T2.toArray (0, 0) _ rfl hfin Try.underlying28 rfl (by rw [HI2.out]; simp)) rfl ⟨?_, ?_⟩
        · rw [HQ0.out, HQ1.out, HQ2.out, HT2.out]; first | rfl | simp
        · exact below_setRow HBU.out.drew HB3.out _
      · skip
        cases q3
        · go_upto_region 32 with (first
              | (go_at_call_of 18 (Value.int .i64 65535); refine (fit_newB 65535 [n1] _ _ rfl 1 rfl (by decide) HQ0.out).mono ?_; rintro e w2 ⟨rfl, rfl⟩)
              | (go_at_call_of 18 (Value.int .i64 16777215); refine (fit_blkB (ys := []) 16777215 [n10] _ _ 1 (blk_new1 wd _  [.int .i64 n10]) rfl (by decide) HQ1.out).mono ?_; rintro e w2 ⟨rfl, rfl⟩)
              | (go_at_call_of 18 (Value.int .i64 255); refine (fit_blkB (ys := []) 255 [n11] _ _ 1 (blk_new2 wd _ _  [.int .i64 n11]) rfl (by decide) HQ2.out).mono ?_; rintro e w2 ⟨rfl, rfl⟩)
              | (go_at_call_of 18 (Value.int .i64 4294967295); refine (fit_blkB (ys := []) 4294967295 [n8] _ _ 1 (blk_new3 wd _ _ _  [.int .i64 n8]) rfl (by decide) HQ3.out).mono ?_; rintro e w2 ⟨rfl, rfl⟩))
          obtain ⟨u, hu⟩ : ∃ u, u = (((((((((wd.alloc (.cells #[.int .i64 n1] 3)).alloc (.cells #[.int .i64 n10] 3)).alloc (.cells #[.int .i64 n11] 3)).alloc (.cells #[.int .i64 n8] 3)).setCell ⟨b4, 1, none⟩ (.int .i64 0)).setCell ⟨b4, 10, none⟩ (.int .i64 0)).setCell ⟨b4, 11, none⟩ (.int .i64 0)).setCell ⟨b4, 8, none⟩ (.int .i64 0)).setCell ⟨b4, 12, none⟩ (.slice none 0 0)) := ⟨_, rfl⟩
          rw [← hu]
          have hT2' : [.int .i64 24, .int .i64 0, .int .i64 n2, .int .i64 n3, .int .i64 n4, .int .i64 n5, .int .i64 n6, .int .i64 n7, .int .i64 0, .int .i64 n9, .int .i64 0, .int .i64 0, .slice none 0 0, .slice a13 l13 c13, .slice a14 l14 c14, .slice a15 l15 c15, .slice a16 l16 c16, .slice a17 l17 c17] = (((((T.set 1 (.int .i64 0)).set 10 (.int .i64 0)).set 11 (.int .i64 0)).set 8 (.int .i64 0)).set 12 (.slice none 0 0)) := by rw [HT.out]; try rfl
          obtain ⟨T2, hT2⟩ : ∃ T2 : List Value, T2 = (((((T.set 1 (.int .i64 0)).set 10 (.int .i64 0)).set 11 (.int .i64 0)).set 8 (.int .i64 0)).set 12 (.slice none 0 0)) := ⟨_, rfl⟩
          have hk4 : Blk u b4 28 T2 := by rw [hu, hT2]; exact (((((((((HH.out.k4.alloc _).alloc _).alloc _).alloc _).set_ 1 _).set_ 10 _).set_ 11 _).set_ 8 _).set_ 12 _)
          have hk3 : Blk u b3 28 Z := by rw [hu]; exact ((set_heap (by have := HH.out.n34; have := HH.out.n4; simp; omega) (by have := HH.out.n34; omega)).trans ((set_heap (by have := HH.out.n34; have := HH.out.n4; simp; omega) (by have := HH.out.n34; omega)).trans ((set_heap (by have := HH.out.n34; have := HH.out.n4; simp; omega) (by have := HH.out.n34; omega)).trans ((set_heap (by have := HH.out.n34; have := HH.out.n4; simp; omega) (by have := HH.out.n34; omega)).trans ((set_heap (by have := HH.out.n34; have := HH.out.n4; simp; omega) (by have := HH.out.n34; omega)).trans ((((HH.out.k3.alloc _).alloc _).alloc _).alloc _))))))
          have hb4 : w.heap.size ≤ b4 := by have := HH.out.n34; have := HH.out.n13; have := HH.out.e1; omega
          have hbu : Below w.heap.size w u := by rw [hu]; exact (((((((((HH.out.bel.alloc (by have := HH.out.bel.size; simp; omega) _).alloc (by have := HH.out.bel.size; simp; omega) _).alloc (by have := HH.out.bel.size; simp; omega) _).alloc (by have := HH.out.bel.size; simp; omega) _).setCell hb4 _).setCell hb4 _).setCell hb4 _).setCell hb4 _).setCell hb4 _)
          rw [← hT2] at hT2'
          have HI2 : Hid ((Try.prog.info? 28).map (·.size) = some T2.length) := by show _ = _; rw [← hT2', HI.out, HT.out]; try rfl
          have HO2 : Hid (T2.toArray.all (·.oneCell') = true) := by show _ = _; rw [← hT2']; simp; repeat' (first | rfl | constructor)
          have HZ2 : Hid (Z.length = T2.length) := by show _ = _; rw [HZL.out, ← hT2', HT.out]; try rfl
          have HK4 := Lib.hid hk4; have HK3 := Lib.hid hk3; have HBU := Lib.hid hbu; have HT2 := Lib.hid hT2'
          have hb3 : w.heap.size ≤ b3 := by have := HH.out.n13; have := HH.out.e1; omega
          have HB3 := Lib.hid hb3
          clear hT2 hu hk4 hk3 hbu hT2' hb4 hb3 x0_0 x0_1 x1_10 x2_11 x3_8 x4_12 f4_1 g1_1 g1_10 g1_11 g1_8 g1_12 f4_2 g2_1 g2_10 g2_11 g2_8 g2_12 f4_3 g3_1 g3_10 g3_11 g3_8 g3_12 f4_4 g4_1 g4_10 g4_11 g4_8 g4_12 f4_5 g5_1 g5_10 g5_11 g5_8 g5_12
          refine wp_region_still_tail 3 (by kernel_rfl) (by kernel_rfl) ?_
          simp only [List.take_succ_cons, List.take_zero, List.drop_succ_cons, List.drop_zero]
          still_step
          refine wpStill_step (fun K hK => ?_)
          refine still_loadAt (by rfl) 28 (.tmp 4) rfl b4 0 rfl T2 _ (blkR HK4.out) Try.underlying28 rfl HI2.out (hK _ ?_)
          clear hK K
          still_step
          refine wpStill_nil ?_
          change wpList _ _ _ _ _ u.drew
          refine wpList_store_rowTo rfl 28 (.tmp 3) (.tmp 211) rfl rfl b3 T2.toArray rfl rfl 28 Z.toArray HK3.out (by rw [HI2.out]; simp) (by simp [HZ2.out]) HO2.out ?_
          go_wp2_with fail
          have hfin : (u.drew.setRow b3 T2.toArray).heap[b3]? = some (.cells T2.toArray 28 (0, 0)) := setRow_heap u.drew _ _ _ _ _ HK3.out
          refine bodyPost_ret (results_tmp_cell rfl _ (u.drew.setRow b3 T2.toArray) b3 28 T2.toArray (0, 0) _ rfl hfin Try.underlying28 rfl (by rw [HI2.out]; simp)) rfl ⟨?_, ?_⟩
          · rw [HQ0.out, HQ1.out, HQ2.out, HQ3.out, HT2.out]; first | rfl | simp
          · exact below_setRow HBU.out.drew HB3.out _
        · skip
          cases q4
          · go_upto_region 32 with (first
                | (go_at_call_of 18 (Value.int .i64 65535); refine (fit_newB 65535 [n1] _ _ rfl 1 rfl (by decide) HQ0.out).mono ?_; rintro e w2 ⟨rfl, rfl⟩)
                | (go_at_call_of 18 (Value.int .i64 16777215); refine (fit_blkB (ys := []) 16777215 [n10] _ _ 1 (blk_new1 wd _  [.int .i64 n10]) rfl (by decide) HQ1.out).mono ?_; rintro e w2 ⟨rfl, rfl⟩)
                | (go_at_call_of 18 (Value.int .i64 255); refine (fit_blkB (ys := []) 255 [n11] _ _ 1 (blk_new2 wd _ _  [.int .i64 n11]) rfl (by decide) HQ2.out).mono ?_; rintro e w2 ⟨rfl, rfl⟩)
                | (go_at_call_of 18 (Value.int .i64 4294967295); refine (fit_blkB (ys := []) 4294967295 [n8] _ _ 1 (blk_new3 wd _ _ _  [.int .i64 n8]) rfl (by decide) HQ3.out).mono ?_; rintro e w2 ⟨rfl, rfl⟩)
                | (go_at_call_of 18 (Value.int .i64 1048576); refine (fit_blkB (ys := []) 1048576 [(l12 : Int)] _ _ 1 (blk_new4 wd _ _ _ _  [.int .i64 (l12 : Int)]) rfl (by decide) HQ4.out).mono ?_; rintro e w2 ⟨rfl, rfl⟩))
            obtain ⟨u, hu⟩ : ∃ u, u = ((((((((((wd.alloc (.cells #[.int .i64 n1] 3)).alloc (.cells #[.int .i64 n10] 3)).alloc (.cells #[.int .i64 n11] 3)).alloc (.cells #[.int .i64 n8] 3)).alloc (.cells #[.int .i64 (l12 : Int)] 3)).setCell ⟨b4, 1, none⟩ (.int .i64 0)).setCell ⟨b4, 10, none⟩ (.int .i64 0)).setCell ⟨b4, 11, none⟩ (.int .i64 0)).setCell ⟨b4, 8, none⟩ (.int .i64 0)).setCell ⟨b4, 12, none⟩ (.slice none 0 0)) := ⟨_, rfl⟩
            rw [← hu]
            have hT2' : [.int .i64 24, .int .i64 0, .int .i64 n2, .int .i64 n3, .int .i64 n4, .int .i64 n5, .int .i64 n6, .int .i64 n7, .int .i64 0, .int .i64 n9, .int .i64 0, .int .i64 0, .slice none 0 0, .slice a13 l13 c13, .slice a14 l14 c14, .slice a15 l15 c15, .slice a16 l16 c16, .slice a17 l17 c17] = (((((T.set 1 (.int .i64 0)).set 10 (.int .i64 0)).set 11 (.int .i64 0)).set 8 (.int .i64 0)).set 12 (.slice none 0 0)) := by rw [HT.out]; try rfl
            obtain ⟨T2, hT2⟩ : ∃ T2 : List Value, T2 = (((((T.set 1 (.int .i64 0)).set 10 (.int .i64 0)).set 11 (.int .i64 0)).set 8 (.int .i64 0)).set 12 (.slice none 0 0)) := ⟨_, rfl⟩
            have hk4 : Blk u b4 28 T2 := by rw [hu, hT2]; exact ((((((((((HH.out.k4.alloc _).alloc _).alloc _).alloc _).alloc _).set_ 1 _).set_ 10 _).set_ 11 _).set_ 8 _).set_ 12 _)
            have hk3 : Blk u b3 28 Z := by rw [hu]; exact ((set_heap (by have := HH.out.n34; have := HH.out.n4; simp; omega) (by have := HH.out.n34; omega)).trans ((set_heap (by have := HH.out.n34; have := HH.out.n4; simp; omega) (by have := HH.out.n34; omega)).trans ((set_heap (by have := HH.out.n34; have := HH.out.n4; simp; omega) (by have := HH.out.n34; omega)).trans ((set_heap (by have := HH.out.n34; have := HH.out.n4; simp; omega) (by have := HH.out.n34; omega)).trans ((set_heap (by have := HH.out.n34; have := HH.out.n4; simp; omega) (by have := HH.out.n34; omega)).trans (((((HH.out.k3.alloc _).alloc _).alloc _).alloc _).alloc _))))))
            have hb4 : w.heap.size ≤ b4 := by have := HH.out.n34; have := HH.out.n13; have := HH.out.e1; omega
            have hbu : Below w.heap.size w u := by rw [hu]; exact ((((((((((HH.out.bel.alloc (by have := HH.out.bel.size; simp; omega) _).alloc (by have := HH.out.bel.size; simp; omega) _).alloc (by have := HH.out.bel.size; simp; omega) _).alloc (by have := HH.out.bel.size; simp; omega) _).alloc (by have := HH.out.bel.size; simp; omega) _).setCell hb4 _).setCell hb4 _).setCell hb4 _).setCell hb4 _).setCell hb4 _)
            rw [← hT2] at hT2'
            have HI2 : Hid ((Try.prog.info? 28).map (·.size) = some T2.length) := by show _ = _; rw [← hT2', HI.out, HT.out]; try rfl
            have HO2 : Hid (T2.toArray.all (·.oneCell') = true) := by show _ = _; rw [← hT2']; simp; repeat' (first | rfl | constructor)
            have HZ2 : Hid (Z.length = T2.length) := by show _ = _; rw [HZL.out, ← hT2', HT.out]; try rfl
            have HK4 := Lib.hid hk4; have HK3 := Lib.hid hk3; have HBU := Lib.hid hbu; have HT2 := Lib.hid hT2'
            have hb3 : w.heap.size ≤ b3 := by have := HH.out.n13; have := HH.out.e1; omega
            have HB3 := Lib.hid hb3
            clear hT2 hu hk4 hk3 hbu hT2' hb4 hb3 x0_0 x0_1 x1_10 x2_11 x3_8 x4_12 f4_1 g1_1 g1_10 g1_11 g1_8 g1_12 f4_2 g2_1 g2_10 g2_11 g2_8 g2_12 f4_3 g3_1 g3_10 g3_11 g3_8 g3_12 f4_4 g4_1 g4_10 g4_11 g4_8 g4_12 f4_5 g5_1 g5_10 g5_11 g5_8 g5_12
            refine wp_region_still_tail 3 (by kernel_rfl) (by kernel_rfl) ?_
            simp only [List.take_succ_cons, List.take_zero, List.drop_succ_cons, List.drop_zero]
            still_step
            refine wpStill_step (fun K hK => ?_)
            refine still_loadAt (by rfl) 28 (.tmp 4) rfl b4 0 rfl T2 _ (blkR HK4.out) Try.underlying28 rfl HI2.out (hK _ ?_)
            clear hK K
            still_step
            refine wpStill_nil ?_
            change wpList _ _ _ _ _ u.drew
            refine wpList_store_rowTo rfl 28 (.tmp 3) (.tmp 211) rfl rfl b3 T2.toArray rfl rfl 28 Z.toArray HK3.out (by rw [HI2.out]; simp) (by simp [HZ2.out]) HO2.out ?_
            go_wp2_with fail
            have hfin : (u.drew.setRow b3 T2.toArray).heap[b3]? = some (.cells T2.toArray 28 (0, 0)) := setRow_heap u.drew _ _ _ _ _ HK3.out
            refine bodyPost_ret (results_tmp_cell rfl _ (u.drew.setRow b3 T2.toArray) b3 28 T2.toArray (0, 0) _ rfl hfin Try.underlying28 rfl (by rw [HI2.out]; simp)) rfl ⟨?_, ?_⟩
            · rw [HQ0.out, HQ1.out, HQ2.out, HQ3.out, HQ4.out, HT2.out]; first | rfl | simp
            · exact below_setRow HBU.out.drew HB3.out _
          · skip
            go_upto_region 32 with (first
                | (go_at_call_of 18 (Value.int .i64 65535); refine (fit_newB 65535 [n1] _ _ rfl 1 rfl (by decide) HQ0.out).mono ?_; rintro e w2 ⟨rfl, rfl⟩)
                | (go_at_call_of 18 (Value.int .i64 16777215); refine (fit_blkB (ys := []) 16777215 [n10] _ _ 1 (blk_new1 wd _  [.int .i64 n10]) rfl (by decide) HQ1.out).mono ?_; rintro e w2 ⟨rfl, rfl⟩)
                | (go_at_call_of 18 (Value.int .i64 255); refine (fit_blkB (ys := []) 255 [n11] _ _ 1 (blk_new2 wd _ _  [.int .i64 n11]) rfl (by decide) HQ2.out).mono ?_; rintro e w2 ⟨rfl, rfl⟩)
                | (go_at_call_of 18 (Value.int .i64 4294967295); refine (fit_blkB (ys := []) 4294967295 [n8] _ _ 1 (blk_new3 wd _ _ _  [.int .i64 n8]) rfl (by decide) HQ3.out).mono ?_; rintro e w2 ⟨rfl, rfl⟩)
                | (go_at_call_of 18 (Value.int .i64 1048576); refine (fit_blkB (ys := []) 1048576 [(l12 : Int)] _ _ 1 (blk_new4 wd _ _ _ _  [.int .i64 (l12 : Int)]) rfl (by decide) HQ4.out).mono ?_; rintro e w2 ⟨rfl, rfl⟩))
            obtain ⟨u, hu⟩ : ∃ u, u = ((((((((((wd.alloc (.cells #[.int .i64 n1] 3)).alloc (.cells #[.int .i64 n10] 3)).alloc (.cells #[.int .i64 n11] 3)).alloc (.cells #[.int .i64 n8] 3)).alloc (.cells #[.int .i64 (l12 : Int)] 3)).setCell ⟨b4, 1, none⟩ (.int .i64 0)).setCell ⟨b4, 10, none⟩ (.int .i64 0)).setCell ⟨b4, 11, none⟩ (.int .i64 0)).setCell ⟨b4, 8, none⟩ (.int .i64 0)).setCell ⟨b4, 12, none⟩ (.slice none 0 0)) := ⟨_, rfl⟩
            rw [← hu]
            have hT2' : [.int .i64 24, .int .i64 0, .int .i64 n2, .int .i64 n3, .int .i64 n4, .int .i64 n5, .int .i64 n6, .int .i64 n7, .int .i64 0, .int .i64 n9, .int .i64 0, .int .i64 0, .slice none 0 0, .slice a13 l13 c13, .slice a14 l14 c14, .slice a15 l15 c15, .slice a16 l16 c16, .slice a17 l17 c17] = (((((T.set 1 (.int .i64 0)).set 10 (.int .i64 0)).set 11 (.int .i64 0)).set 8 (.int .i64 0)).set 12 (.slice none 0 0)) := by rw [HT.out]; try rfl
            obtain ⟨T2, hT2⟩ : ∃ T2 : List Value, T2 = (((((T.set 1 (.int .i64 0)).set 10 (.int .i64 0)).set 11 (.int .i64 0)).set 8 (.int .i64 0)).set 12 (.slice none 0 0)) := ⟨_, rfl⟩
            have hk4 : Blk u b4 28 T2 := by rw [hu, hT2]; exact ((((((((((HH.out.k4.alloc _).alloc _).alloc _).alloc _).alloc _).set_ 1 _).set_ 10 _).set_ 11 _).set_ 8 _).set_ 12 _)
            have hk3 : Blk u b3 28 Z := by rw [hu]; exact ((set_heap (by have := HH.out.n34; have := HH.out.n4; simp; omega) (by have := HH.out.n34; omega)).trans ((set_heap (by have := HH.out.n34; have := HH.out.n4; simp; omega) (by have := HH.out.n34; omega)).trans ((set_heap (by have := HH.out.n34; have := HH.out.n4; simp; omega) (by have := HH.out.n34; omega)).trans ((set_heap (by have := HH.out.n34; have := HH.out.n4; simp; omega) (by have := HH.out.n34; omega)).trans ((set_heap (by have := HH.out.n34; have := HH.out.n4; simp; omega) (by have := HH.out.n34; omega)).trans (((((HH.out.k3.alloc _).alloc _).alloc _).alloc _).alloc _))))))
            have hb4 : w.heap.size ≤ b4 := by have := HH.out.n34; have := HH.out.n13; have := HH.out.e1; omega
            have hbu : Below w.heap.size w u := by rw [hu]; exact ((((((((((HH.out.bel.alloc (by have := HH.out.bel.size; simp; omega) _).alloc (by have := HH.out.bel.size; simp; omega) _).alloc (by have := HH.out.bel.size; simp; omega) _).alloc (by have := HH.out.bel.size; simp; omega) _).alloc (by have := HH.out.bel.size; simp; omega) _).setCell hb4 _).setCell hb4 _).setCell hb4 _).setCell hb4 _).setCell hb4 _)
            rw [← hT2] at hT2'
            have HI2 : Hid ((Try.prog.info? 28).map (·.size) = some T2.length) := by show _ = _; rw [← hT2', HI.out, HT.out]; try rfl
            have HO2 : Hid (T2.toArray.all (·.oneCell') = true) := by show _ = _; rw [← hT2']; simp; repeat' (first | rfl | constructor)
            have HZ2 : Hid (Z.length = T2.length) := by show _ = _; rw [HZL.out, ← hT2', HT.out]; try rfl
            have HK4 := Lib.hid hk4; have HK3 := Lib.hid hk3; have HBU := Lib.hid hbu; have HT2 := Lib.hid hT2'
            have hb3 : w.heap.size ≤ b3 := by have := HH.out.n13; have := HH.out.e1; omega
            have HB3 := Lib.hid hb3
            clear hT2 hu hk4 hk3 hbu hT2' hb4 hb3 x0_0 x0_1 x1_10 x2_11 x3_8 x4_12 f4_1 g1_1 g1_10 g1_11 g1_8 g1_12 f4_2 g2_1 g2_10 g2_11 g2_8 g2_12 f4_3 g3_1 g3_10 g3_11 g3_8 g3_12 f4_4 g4_1 g4_10 g4_11 g4_8 g4_12 f4_5 g5_1 g5_10 g5_11 g5_8 g5_12
            refine wp_region_still_tail 3 (by kernel_rfl) (by kernel_rfl) ?_
            simp only [List.take_succ_cons, List.take_zero, List.drop_succ_cons, List.drop_zero]
            still_step
            refine wpStill_step (fun K hK => ?_)
            refine still_loadAt (by rfl) 28 (.tmp 4) rfl b4 0 rfl T2 _ (blkR HK4.out) Try.underlying28 rfl HI2.out (hK _ ?_)
            clear hK K
            still_step
            refine wpStill_nil ?_
            change wpList _ _ _ _ _ u.drew
            refine wpList_store_rowTo rfl 28 (.tmp 3) (.tmp 211) rfl rfl b3 T2.toArray rfl rfl 28 Z.toArray HK3.out (by rw [HI2.out]; simp) (by simp [HZ2.out]) HO2.out ?_
            go_wp2_with fail
            have hfin : (u.drew.setRow b3 T2.toArray).heap[b3]? = some (.cells T2.toArray 28 (0, 0)) := setRow_heap u.drew _ _ _ _ _ HK3.out
            refine bodyPost_ret (results_tmp_cell rfl _ (u.drew.setRow b3 T2.toArray) b3 28 T2.toArray (0, 0) _ rfl hfin Try.underlying28 rfl (by rw [HI2.out]; simp)) rfl ⟨?_, ?_⟩
            · rw [HQ0.out, HQ1.out, HQ2.out, HQ3.out, HQ4.out, HT2.out]; first | rfl | simp
            · exact below_setRow HBU.out.drew HB3.out _
end Go.Proofs.Ytokidpajialgbaa
