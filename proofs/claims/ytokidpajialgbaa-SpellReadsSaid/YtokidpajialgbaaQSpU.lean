/- spell.other, spell.sound: the branches with one test at most. Written by gen_spu.py. -/
import Derived.Test.YtokidpajialgbaaQG07
namespace Go.Proofs.Ytokidpajialgbaa
set_option linter.unusedSimpArgs false
set_option linter.unusedVariables false
open Go.RowKit
set_option maxRecDepth 100000 in
set_option maxHeartbeats 8000000 in
theorem sp_other_34 (n1 n2 n3 n4 n5 n6 n7 n8 n9 n10 n11 : Int) (a12 a13 a14 a15 a16 a17 : Option Addr) (l12 l13 l14 l15 l16 l17 c12 c13 c14 c15 c16 c17 : Nat) (w : World) :
    Calls Try.prog 40 #[.agg #[.int .i64 34, .int .i64 n1, .int .i64 n2, .int .i64 n3, .int .i64 n4, .int .i64 n5, .int .i64 n6, .int .i64 n7, .int .i64 n8, .int .i64 n9, .int .i64 n10, .int .i64 n11, .slice a12 l12 c12, .slice a13 l13 c13, .slice a14 l14 c14, .slice a15 l15 c15, .slice a16 l16 c16, .slice a17 l17 c17]] w
      (SndR (true) [.int .i64 34, .int .i64 n1, .int .i64 n2, .int .i64 n3, .int .i64 n4, .int .i64 n5, .int .i64 n6, .int .i64 n7, .int .i64 n8, .int .i64 n9, .int .i64 n10, .int .i64 n11, .slice a12 l12 c12, .slice a13 l13 c13, .slice a14 l14 c14, .slice a15 l15 c15, .slice a16 l16 c16, .slice a17 l17 c17] w) := by
  obtain ⟨T, hT⟩ : ∃ T : List Value, T = [.int .i64 34, .int .i64 n1, .int .i64 n2, .int .i64 n3, .int .i64 n4, .int .i64 n5, .int .i64 n6, .int .i64 n7, .int .i64 n8, .int .i64 n9, .int .i64 n10, .int .i64 n11, .slice a12 l12 c12, .slice a13 l13 c13, .slice a14 l14 c14, .slice a15 l15 c15, .slice a16 l16 c16, .slice a17 l17 c17] := ⟨_, rfl⟩
  have hA : (#[.int .i64 34, .int .i64 n1, .int .i64 n2, .int .i64 n3, .int .i64 n4, .int .i64 n5, .int .i64 n6, .int .i64 n7, .int .i64 n8, .int .i64 n9, .int .i64 n10, .int .i64 n11, .slice a12 l12 c12, .slice a13 l13 c13, .slice a14 l14 c14, .slice a15 l15 c15, .slice a16 l16 c16, .slice a17 l17 c17] : Array Value) = T.toArray := by rw [hT]
  obtain ⟨Z, hZ⟩ : ∃ Z : List Value, Z = [.int .i64 0, .int .i64 0, .int .i64 0, .int .i64 0, .int .i64 0, .int .i64 0, .int .i64 0, .int .i64 0, .int .i64 0, .int .i64 0, .int .i64 0, .int .i64 0, .slice none 0 0, .slice none 0 0, .slice none 0 0, .slice none 0 0, .slice none 0 0, .slice none 0 0] := ⟨_, rfl⟩
  obtain ⟨wa, wb, wd, b1, b3, b4, H⟩ := laid3 w T Z
  have HH := Lib.hid H
  have hlen : T.length = 18 := by rw [hT]; rfl
  have HI : Hid ((Try.prog.info? 28).map (·.size) = some T.length) := by show _ = _; rw [hlen]; exact infoBlkS
  have HO : Hid (T.toArray.all (·.oneCell') = true) := by show _ = _; rw [hT]; simp; repeat' (first | rfl | constructor)
  have HZ : Hid ((Try.prog.info? 28).bind (·.zero) = some (.agg Z.toArray)) := by show _ = _; rw [hZ]; kernel_rfl
  have HZL : Hid (Z.length = T.length) := by show _ = _; rw [hZ, hT]; rfl
  have x0 : wd.cell? ⟨b1, 0, none⟩ = some (.int .i64 34) := by have := H.k1; rw [hT] at this; exact this.cell 0
  have f4 : ∀ (o : Obj) (i : Nat), wd.frozen? ⟨b4, i, none⟩ = false := fun o i => (H.k4).frozen i
  have HT := Lib.hid hT
  rw [hA]
  clear hT hA H hlen hZ
  go_enter Try.func40, Try.ntmps40
  go_upto_region 2 with (first
    | (refine Great.wpList_boxTo rfl 28 (.tmp 0) rfl (some 1) rfl b1 HH.out.e1 T.toArray rfl ?_; rw [HH.out.ea])
    | (refine wpList_allocToS rfl 28 rfl (some 3) rfl b3 HH.out.e3 (.agg Z.toArray) HZ.out ?_; rw [show (Value.agg Z.toArray).cells = Z.toArray from rfl, HH.out.eb])
    | (refine wpList_load_mid rfl 28 (.tmp 1) rfl b1 0 rfl T _ (blkR HH.out.kb) Try.underlying28 rfl HI.out ?_)
    | (refine wpList_allocToS rfl 28 rfl (some 4) rfl b4 HH.out.e4 (.agg Z.toArray) HZ.out ?_; rw [show (Value.agg Z.toArray).cells = Z.toArray from rfl])
    | (refine wpList_store_rowTo rfl 28 (.tmp 4) (.tmp 6) rfl rfl b4 T.toArray rfl rfl 28 _ (by rw [← HH.out.e4]; exact heap_alloc_new wb _) (by rw [HI.out]; simp) (by simp [HZL.out]) HO.out ?_; rw [← HH.out.e4, World.setRow_alloc_new, HH.out.e4, HH.out.ed]))
  go_upto_region 45 with fail
  obtain ⟨u, hu⟩ : ∃ u, u = wd := ⟨_, rfl⟩
  rw [← hu]
  have hT2' : [.int .i64 34, .int .i64 n1, .int .i64 n2, .int .i64 n3, .int .i64 n4, .int .i64 n5, .int .i64 n6, .int .i64 n7, .int .i64 n8, .int .i64 n9, .int .i64 n10, .int .i64 n11, .slice a12 l12 c12, .slice a13 l13 c13, .slice a14 l14 c14, .slice a15 l15 c15, .slice a16 l16 c16, .slice a17 l17 c17] = T := by rw [HT.out]; try rfl
  obtain ⟨T2, hT2⟩ : ∃ T2 : List Value, T2 = T := ⟨_, rfl⟩
  have hk4 : Blk u b4 28 T2 := by rw [hu, hT2]; exact HH.out.k4
  have hk3 : Blk u b3 28 Z := by rw [hu]; exact HH.out.k3
  have hb4 : w.heap.size ≤ b4 := by have := HH.out.n34; have := HH.out.n13; have := HH.out.e1; omega
  have hbu : Below w.heap.size w u := by rw [hu]; exact HH.out.bel
  rw [← hT2] at hT2'
  have HI2 : Hid ((Try.prog.info? 28).map (·.size) = some T2.length) := by show _ = _; rw [← hT2', HI.out, HT.out]; try rfl
  have HO2 : Hid (T2.toArray.all (·.oneCell') = true) := by show _ = _; rw [← hT2']; simp; repeat' (first | rfl | constructor)
  have HZ2 : Hid (Z.length = T2.length) := by show _ = _; rw [HZL.out, ← hT2', HT.out]; try rfl
  have HK4 := Lib.hid hk4; have HK3 := Lib.hid hk3; have HBU := Lib.hid hbu; have HT2 := Lib.hid hT2'
  have hb3 : w.heap.size ≤ b3 := by have := HH.out.n13; have := HH.out.e1; omega
  have HB3 := Lib.hid hb3
  clear hT2 hu hk4 hk3 hbu hT2' hb4 hb3 x0 f4
  refine wp_region_still_tail 3 (by kernel_rfl) (by kernel_rfl) ?_
  simp only [List.take_succ_cons, List.take_zero, List.drop_succ_cons, List.drop_zero]
  still_step
  refine wpStill_step (fun K hK => ?_)
  refine still_loadAt (by rfl) 28 (.tmp 4) rfl b4 0 rfl T2 _ (blkR HK4.out) Try.underlying28 rfl HI2.out (hK _ ?_)
  clear hK K
  still_step
  refine wpStill_nil ?_
  change wpList _ _ _ _ _ u.drew
  refine wpList_store_rowTo rfl 28 (.tmp 3) (.tmp 159) rfl rfl b3 T2.toArray rfl rfl 28 Z.toArray HK3.out (by rw [HI2.out]; simp) (by simp [HZ2.out]) HO2.out ?_
  go_wp2_with fail
  have hfin : (u.drew.setRow b3 T2.toArray).heap[b3]? = some (.cells T2.toArray 28 (0, 0)) := setRow_heap u.drew _ _ _ _ _ HK3.out
  refine bodyPost_ret (results_tmp_cell rfl _ (u.drew.setRow b3 T2.toArray) b3 28 T2.toArray (0, 0) _ rfl hfin Try.underlying28 rfl (by rw [HI2.out]; simp)) rfl ⟨?_, ?_⟩
  · rw [HT2.out]; try rfl
  · exact below_setRow HBU.out.drew HB3.out _
set_option maxRecDepth 100000 in
set_option maxHeartbeats 8000000 in
theorem sp_other_37 (n1 n2 n3 n4 n5 n6 n7 n8 n9 n10 n11 : Int) (a12 a13 a14 a15 a16 a17 : Option Addr) (l12 l13 l14 l15 l16 l17 c12 c13 c14 c15 c16 c17 : Nat) (w : World) :
    Calls Try.prog 40 #[.agg #[.int .i64 37, .int .i64 n1, .int .i64 n2, .int .i64 n3, .int .i64 n4, .int .i64 n5, .int .i64 n6, .int .i64 n7, .int .i64 n8, .int .i64 n9, .int .i64 n10, .int .i64 n11, .slice a12 l12 c12, .slice a13 l13 c13, .slice a14 l14 c14, .slice a15 l15 c15, .slice a16 l16 c16, .slice a17 l17 c17]] w
      (SndR (true) [.int .i64 37, .int .i64 n1, .int .i64 n2, .int .i64 n3, .int .i64 n4, .int .i64 n5, .int .i64 n6, .int .i64 n7, .int .i64 n8, .int .i64 n9, .int .i64 n10, .int .i64 n11, .slice a12 l12 c12, .slice a13 l13 c13, .slice a14 l14 c14, .slice a15 l15 c15, .slice a16 l16 c16, .slice a17 l17 c17] w) := by
  obtain ⟨T, hT⟩ : ∃ T : List Value, T = [.int .i64 37, .int .i64 n1, .int .i64 n2, .int .i64 n3, .int .i64 n4, .int .i64 n5, .int .i64 n6, .int .i64 n7, .int .i64 n8, .int .i64 n9, .int .i64 n10, .int .i64 n11, .slice a12 l12 c12, .slice a13 l13 c13, .slice a14 l14 c14, .slice a15 l15 c15, .slice a16 l16 c16, .slice a17 l17 c17] := ⟨_, rfl⟩
  have hA : (#[.int .i64 37, .int .i64 n1, .int .i64 n2, .int .i64 n3, .int .i64 n4, .int .i64 n5, .int .i64 n6, .int .i64 n7, .int .i64 n8, .int .i64 n9, .int .i64 n10, .int .i64 n11, .slice a12 l12 c12, .slice a13 l13 c13, .slice a14 l14 c14, .slice a15 l15 c15, .slice a16 l16 c16, .slice a17 l17 c17] : Array Value) = T.toArray := by rw [hT]
  obtain ⟨Z, hZ⟩ : ∃ Z : List Value, Z = [.int .i64 0, .int .i64 0, .int .i64 0, .int .i64 0, .int .i64 0, .int .i64 0, .int .i64 0, .int .i64 0, .int .i64 0, .int .i64 0, .int .i64 0, .int .i64 0, .slice none 0 0, .slice none 0 0, .slice none 0 0, .slice none 0 0, .slice none 0 0, .slice none 0 0] := ⟨_, rfl⟩
  obtain ⟨wa, wb, wd, b1, b3, b4, H⟩ := laid3 w T Z
  have HH := Lib.hid H
  have hlen : T.length = 18 := by rw [hT]; rfl
  have HI : Hid ((Try.prog.info? 28).map (·.size) = some T.length) := by show _ = _; rw [hlen]; exact infoBlkS
  have HO : Hid (T.toArray.all (·.oneCell') = true) := by show _ = _; rw [hT]; simp; repeat' (first | rfl | constructor)
  have HZ : Hid ((Try.prog.info? 28).bind (·.zero) = some (.agg Z.toArray)) := by show _ = _; rw [hZ]; kernel_rfl
  have HZL : Hid (Z.length = T.length) := by show _ = _; rw [hZ, hT]; rfl
  have x0 : wd.cell? ⟨b1, 0, none⟩ = some (.int .i64 37) := by have := H.k1; rw [hT] at this; exact this.cell 0
  have f4 : ∀ (o : Obj) (i : Nat), wd.frozen? ⟨b4, i, none⟩ = false := fun o i => (H.k4).frozen i
  have HT := Lib.hid hT
  rw [hA]
  clear hT hA H hlen hZ
  go_enter Try.func40, Try.ntmps40
  go_upto_region 2 with (first
    | (refine Great.wpList_boxTo rfl 28 (.tmp 0) rfl (some 1) rfl b1 HH.out.e1 T.toArray rfl ?_; rw [HH.out.ea])
    | (refine wpList_allocToS rfl 28 rfl (some 3) rfl b3 HH.out.e3 (.agg Z.toArray) HZ.out ?_; rw [show (Value.agg Z.toArray).cells = Z.toArray from rfl, HH.out.eb])
    | (refine wpList_load_mid rfl 28 (.tmp 1) rfl b1 0 rfl T _ (blkR HH.out.kb) Try.underlying28 rfl HI.out ?_)
    | (refine wpList_allocToS rfl 28 rfl (some 4) rfl b4 HH.out.e4 (.agg Z.toArray) HZ.out ?_; rw [show (Value.agg Z.toArray).cells = Z.toArray from rfl])
    | (refine wpList_store_rowTo rfl 28 (.tmp 4) (.tmp 6) rfl rfl b4 T.toArray rfl rfl 28 _ (by rw [← HH.out.e4]; exact heap_alloc_new wb _) (by rw [HI.out]; simp) (by simp [HZL.out]) HO.out ?_; rw [← HH.out.e4, World.setRow_alloc_new, HH.out.e4, HH.out.ed]))
  go_upto_region 45 with fail
  obtain ⟨u, hu⟩ : ∃ u, u = wd := ⟨_, rfl⟩
  rw [← hu]
  have hT2' : [.int .i64 37, .int .i64 n1, .int .i64 n2, .int .i64 n3, .int .i64 n4, .int .i64 n5, .int .i64 n6, .int .i64 n7, .int .i64 n8, .int .i64 n9, .int .i64 n10, .int .i64 n11, .slice a12 l12 c12, .slice a13 l13 c13, .slice a14 l14 c14, .slice a15 l15 c15, .slice a16 l16 c16, .slice a17 l17 c17] = T := by rw [HT.out]; try rfl
  obtain ⟨T2, hT2⟩ : ∃ T2 : List Value, T2 = T := ⟨_, rfl⟩
  have hk4 : Blk u b4 28 T2 := by rw [hu, hT2]; exact HH.out.k4
  have hk3 : Blk u b3 28 Z := by rw [hu]; exact HH.out.k3
  have hb4 : w.heap.size ≤ b4 := by have := HH.out.n34; have := HH.out.n13; have := HH.out.e1; omega
  have hbu : Below w.heap.size w u := by rw [hu]; exact HH.out.bel
  rw [← hT2] at hT2'
  have HI2 : Hid ((Try.prog.info? 28).map (·.size) = some T2.length) := by show _ = _; rw [← hT2', HI.out, HT.out]; try rfl
  have HO2 : Hid (T2.toArray.all (·.oneCell') = true) := by show _ = _; rw [← hT2']; simp; repeat' (first | rfl | constructor)
  have HZ2 : Hid (Z.length = T2.length) := by show _ = _; rw [HZL.out, ← hT2', HT.out]; try rfl
  have HK4 := Lib.hid hk4; have HK3 := Lib.hid hk3; have HBU := Lib.hid hbu; have HT2 := Lib.hid hT2'
  have hb3 : w.heap.size ≤ b3 := by have := HH.out.n13; have := HH.out.e1; omega
  have HB3 := Lib.hid hb3
  clear hT2 hu hk4 hk3 hbu hT2' hb4 hb3 x0 f4
  refine wp_region_still_tail 3 (by kernel_rfl) (by kernel_rfl) ?_
  simp only [List.take_succ_cons, List.take_zero, List.drop_succ_cons, List.drop_zero]
  still_step
  refine wpStill_step (fun K hK => ?_)
  refine still_loadAt (by rfl) 28 (.tmp 4) rfl b4 0 rfl T2 _ (blkR HK4.out) Try.underlying28 rfl HI2.out (hK _ ?_)
  clear hK K
  still_step
  refine wpStill_nil ?_
  change wpList _ _ _ _ _ u.drew
  refine wpList_store_rowTo rfl 28 (.tmp 3) (.tmp 159) rfl rfl b3 T2.toArray rfl rfl 28 Z.toArray HK3.out (by rw [HI2.out]; simp) (by simp [HZ2.out]) HO2.out ?_
  go_wp2_with fail
  have hfin : (u.drew.setRow b3 T2.toArray).heap[b3]? = some (.cells T2.toArray 28 (0, 0)) := setRow_heap u.drew _ _ _ _ _ HK3.out
  refine bodyPost_ret (results_tmp_cell rfl _ (u.drew.setRow b3 T2.toArray) b3 28 T2.toArray (0, 0) _ rfl hfin Try.underlying28 rfl (by rw [HI2.out]; simp)) rfl ⟨?_, ?_⟩
  · rw [HT2.out]; try rfl
  · exact below_setRow HBU.out.drew HB3.out _
set_option maxRecDepth 100000 in
set_option maxHeartbeats 8000000 in
theorem sp_other_39 (n1 n2 n3 n4 n5 n6 n7 n8 n9 n10 n11 : Int) (a12 a13 a14 a15 a16 a17 : Option Addr) (l12 l13 l14 l15 l16 l17 c12 c13 c14 c15 c16 c17 : Nat) (w : World) :
    Calls Try.prog 40 #[.agg #[.int .i64 39, .int .i64 n1, .int .i64 n2, .int .i64 n3, .int .i64 n4, .int .i64 n5, .int .i64 n6, .int .i64 n7, .int .i64 n8, .int .i64 n9, .int .i64 n10, .int .i64 n11, .slice a12 l12 c12, .slice a13 l13 c13, .slice a14 l14 c14, .slice a15 l15 c15, .slice a16 l16 c16, .slice a17 l17 c17]] w
      (SndR (true) [.int .i64 39, .int .i64 n1, .int .i64 n2, .int .i64 n3, .int .i64 n4, .int .i64 n5, .int .i64 n6, .int .i64 n7, .int .i64 n8, .int .i64 n9, .int .i64 n10, .int .i64 n11, .slice a12 l12 c12, .slice a13 l13 c13, .slice a14 l14 c14, .slice a15 l15 c15, .slice a16 l16 c16, .slice a17 l17 c17] w) := by
  obtain ⟨T, hT⟩ : ∃ T : List Value, T = [.int .i64 39, .int .i64 n1, .int .i64 n2, .int .i64 n3, .int .i64 n4, .int .i64 n5, .int .i64 n6, .int .i64 n7, .int .i64 n8, .int .i64 n9, .int .i64 n10, .int .i64 n11, .slice a12 l12 c12, .slice a13 l13 c13, .slice a14 l14 c14, .slice a15 l15 c15, .slice a16 l16 c16, .slice a17 l17 c17] := ⟨_, rfl⟩
  have hA : (#[.int .i64 39, .int .i64 n1, .int .i64 n2, .int .i64 n3, .int .i64 n4, .int .i64 n5, .int .i64 n6, .int .i64 n7, .int .i64 n8, .int .i64 n9, .int .i64 n10, .int .i64 n11, .slice a12 l12 c12, .slice a13 l13 c13, .slice a14 l14 c14, .slice a15 l15 c15, .slice a16 l16 c16, .slice a17 l17 c17] : Array Value) = T.toArray := by rw [hT]
  obtain ⟨Z, hZ⟩ : ∃ Z : List Value, Z = [.int .i64 0, .int .i64 0, .int .i64 0, .int .i64 0, .int .i64 0, .int .i64 0, .int .i64 0, .int .i64 0, .int .i64 0, .int .i64 0, .int .i64 0, .int .i64 0, .slice none 0 0, .slice none 0 0, .slice none 0 0, .slice none 0 0, .slice none 0 0, .slice none 0 0] := ⟨_, rfl⟩
  obtain ⟨wa, wb, wd, b1, b3, b4, H⟩ := laid3 w T Z
  have HH := Lib.hid H
  have hlen : T.length = 18 := by rw [hT]; rfl
  have HI : Hid ((Try.prog.info? 28).map (·.size) = some T.length) := by show _ = _; rw [hlen]; exact infoBlkS
  have HO : Hid (T.toArray.all (·.oneCell') = true) := by show _ = _; rw [hT]; simp; repeat' (first | rfl | constructor)
  have HZ : Hid ((Try.prog.info? 28).bind (·.zero) = some (.agg Z.toArray)) := by show _ = _; rw [hZ]; kernel_rfl
  have HZL : Hid (Z.length = T.length) := by show _ = _; rw [hZ, hT]; rfl
  have x0 : wd.cell? ⟨b1, 0, none⟩ = some (.int .i64 39) := by have := H.k1; rw [hT] at this; exact this.cell 0
  have f4 : ∀ (o : Obj) (i : Nat), wd.frozen? ⟨b4, i, none⟩ = false := fun o i => (H.k4).frozen i
  have HT := Lib.hid hT
  rw [hA]
  clear hT hA H hlen hZ
  go_enter Try.func40, Try.ntmps40
  go_upto_region 2 with (first
    | (refine Great.wpList_boxTo rfl 28 (.tmp 0) rfl (some 1) rfl b1 HH.out.e1 T.toArray rfl ?_; rw [HH.out.ea])
    | (refine wpList_allocToS rfl 28 rfl (some 3) rfl b3 HH.out.e3 (.agg Z.toArray) HZ.out ?_; rw [show (Value.agg Z.toArray).cells = Z.toArray from rfl, HH.out.eb])
    | (refine wpList_load_mid rfl 28 (.tmp 1) rfl b1 0 rfl T _ (blkR HH.out.kb) Try.underlying28 rfl HI.out ?_)
    | (refine wpList_allocToS rfl 28 rfl (some 4) rfl b4 HH.out.e4 (.agg Z.toArray) HZ.out ?_; rw [show (Value.agg Z.toArray).cells = Z.toArray from rfl])
    | (refine wpList_store_rowTo rfl 28 (.tmp 4) (.tmp 6) rfl rfl b4 T.toArray rfl rfl 28 _ (by rw [← HH.out.e4]; exact heap_alloc_new wb _) (by rw [HI.out]; simp) (by simp [HZL.out]) HO.out ?_; rw [← HH.out.e4, World.setRow_alloc_new, HH.out.e4, HH.out.ed]))
  go_upto_region 45 with fail
  obtain ⟨u, hu⟩ : ∃ u, u = wd := ⟨_, rfl⟩
  rw [← hu]
  have hT2' : [.int .i64 39, .int .i64 n1, .int .i64 n2, .int .i64 n3, .int .i64 n4, .int .i64 n5, .int .i64 n6, .int .i64 n7, .int .i64 n8, .int .i64 n9, .int .i64 n10, .int .i64 n11, .slice a12 l12 c12, .slice a13 l13 c13, .slice a14 l14 c14, .slice a15 l15 c15, .slice a16 l16 c16, .slice a17 l17 c17] = T := by rw [HT.out]; try rfl
  obtain ⟨T2, hT2⟩ : ∃ T2 : List Value, T2 = T := ⟨_, rfl⟩
  have hk4 : Blk u b4 28 T2 := by rw [hu, hT2]; exact HH.out.k4
  have hk3 : Blk u b3 28 Z := by rw [hu]; exact HH.out.k3
  have hb4 : w.heap.size ≤ b4 := by have := HH.out.n34; have := HH.out.n13; have := HH.out.e1; omega
  have hbu : Below w.heap.size w u := by rw [hu]; exact HH.out.bel
  rw [← hT2] at hT2'
  have HI2 : Hid ((Try.prog.info? 28).map (·.size) = some T2.length) := by show _ = _; rw [← hT2', HI.out, HT.out]; try rfl
  have HO2 : Hid (T2.toArray.all (·.oneCell') = true) := by show _ = _; rw [← hT2']; simp; repeat' (first | rfl | constructor)
  have HZ2 : Hid (Z.length = T2.length) := by show _ = _; rw [HZL.out, ← hT2', HT.out]; try rfl
  have HK4 := Lib.hid hk4; have HK3 := Lib.hid hk3; have HBU := Lib.hid hbu; have HT2 := Lib.hid hT2'
  have hb3 : w.heap.size ≤ b3 := by have := HH.out.n13; have := HH.out.e1; omega
  have HB3 := Lib.hid hb3
  clear hT2 hu hk4 hk3 hbu hT2' hb4 hb3 x0 f4
  refine wp_region_still_tail 3 (by kernel_rfl) (by kernel_rfl) ?_
  simp only [List.take_succ_cons, List.take_zero, List.drop_succ_cons, List.drop_zero]
  still_step
  refine wpStill_step (fun K hK => ?_)
  refine still_loadAt (by rfl) 28 (.tmp 4) rfl b4 0 rfl T2 _ (blkR HK4.out) Try.underlying28 rfl HI2.out (hK _ ?_)
  clear hK K
  still_step
  refine wpStill_nil ?_
  change wpList _ _ _ _ _ u.drew
  refine wpList_store_rowTo rfl 28 (.tmp 3) (.tmp 159) rfl rfl b3 T2.toArray rfl rfl 28 Z.toArray HK3.out (by rw [HI2.out]; simp) (by simp [HZ2.out]) HO2.out ?_
  go_wp2_with fail
  have hfin : (u.drew.setRow b3 T2.toArray).heap[b3]? = some (.cells T2.toArray 28 (0, 0)) := setRow_heap u.drew _ _ _ _ _ HK3.out
  refine bodyPost_ret (results_tmp_cell rfl _ (u.drew.setRow b3 T2.toArray) b3 28 T2.toArray (0, 0) _ rfl hfin Try.underlying28 rfl (by rw [HI2.out]; simp)) rfl ⟨?_, ?_⟩
  · rw [HT2.out]; try rfl
  · exact below_setRow HBU.out.drew HB3.out _
set_option maxRecDepth 100000 in
set_option maxHeartbeats 8000000 in
theorem sp_other_42 (n1 n2 n3 n4 n5 n6 n7 n8 n9 n10 n11 : Int) (a12 a13 a14 a15 a16 a17 : Option Addr) (l12 l13 l14 l15 l16 l17 c12 c13 c14 c15 c16 c17 : Nat) (w : World) :
    Calls Try.prog 40 #[.agg #[.int .i64 42, .int .i64 n1, .int .i64 n2, .int .i64 n3, .int .i64 n4, .int .i64 n5, .int .i64 n6, .int .i64 n7, .int .i64 n8, .int .i64 n9, .int .i64 n10, .int .i64 n11, .slice a12 l12 c12, .slice a13 l13 c13, .slice a14 l14 c14, .slice a15 l15 c15, .slice a16 l16 c16, .slice a17 l17 c17]] w
      (SndR (true) [.int .i64 42, .int .i64 n1, .int .i64 n2, .int .i64 n3, .int .i64 n4, .int .i64 n5, .int .i64 n6, .int .i64 n7, .int .i64 n8, .int .i64 n9, .int .i64 n10, .int .i64 n11, .slice a12 l12 c12, .slice a13 l13 c13, .slice a14 l14 c14, .slice a15 l15 c15, .slice a16 l16 c16, .slice a17 l17 c17] w) := by
  obtain ⟨T, hT⟩ : ∃ T : List Value, T = [.int .i64 42, .int .i64 n1, .int .i64 n2, .int .i64 n3, .int .i64 n4, .int .i64 n5, .int .i64 n6, .int .i64 n7, .int .i64 n8, .int .i64 n9, .int .i64 n10, .int .i64 n11, .slice a12 l12 c12, .slice a13 l13 c13, .slice a14 l14 c14, .slice a15 l15 c15, .slice a16 l16 c16, .slice a17 l17 c17] := ⟨_, rfl⟩
  have hA : (#[.int .i64 42, .int .i64 n1, .int .i64 n2, .int .i64 n3, .int .i64 n4, .int .i64 n5, .int .i64 n6, .int .i64 n7, .int .i64 n8, .int .i64 n9, .int .i64 n10, .int .i64 n11, .slice a12 l12 c12, .slice a13 l13 c13, .slice a14 l14 c14, .slice a15 l15 c15, .slice a16 l16 c16, .slice a17 l17 c17] : Array Value) = T.toArray := by rw [hT]
  obtain ⟨Z, hZ⟩ : ∃ Z : List Value, Z = [.int .i64 0, .int .i64 0, .int .i64 0, .int .i64 0, .int .i64 0, .int .i64 0, .int .i64 0, .int .i64 0, .int .i64 0, .int .i64 0, .int .i64 0, .int .i64 0, .slice none 0 0, .slice none 0 0, .slice none 0 0, .slice none 0 0, .slice none 0 0, .slice none 0 0] := ⟨_, rfl⟩
  obtain ⟨wa, wb, wd, b1, b3, b4, H⟩ := laid3 w T Z
  have HH := Lib.hid H
  have hlen : T.length = 18 := by rw [hT]; rfl
  have HI : Hid ((Try.prog.info? 28).map (·.size) = some T.length) := by show _ = _; rw [hlen]; exact infoBlkS
  have HO : Hid (T.toArray.all (·.oneCell') = true) := by show _ = _; rw [hT]; simp; repeat' (first | rfl | constructor)
  have HZ : Hid ((Try.prog.info? 28).bind (·.zero) = some (.agg Z.toArray)) := by show _ = _; rw [hZ]; kernel_rfl
  have HZL : Hid (Z.length = T.length) := by show _ = _; rw [hZ, hT]; rfl
  have x0 : wd.cell? ⟨b1, 0, none⟩ = some (.int .i64 42) := by have := H.k1; rw [hT] at this; exact this.cell 0
  have f4 : ∀ (o : Obj) (i : Nat), wd.frozen? ⟨b4, i, none⟩ = false := fun o i => (H.k4).frozen i
  have HT := Lib.hid hT
  rw [hA]
  clear hT hA H hlen hZ
  go_enter Try.func40, Try.ntmps40
  go_upto_region 2 with (first
    | (refine Great.wpList_boxTo rfl 28 (.tmp 0) rfl (some 1) rfl b1 HH.out.e1 T.toArray rfl ?_; rw [HH.out.ea])
    | (refine wpList_allocToS rfl 28 rfl (some 3) rfl b3 HH.out.e3 (.agg Z.toArray) HZ.out ?_; rw [show (Value.agg Z.toArray).cells = Z.toArray from rfl, HH.out.eb])
    | (refine wpList_load_mid rfl 28 (.tmp 1) rfl b1 0 rfl T _ (blkR HH.out.kb) Try.underlying28 rfl HI.out ?_)
    | (refine wpList_allocToS rfl 28 rfl (some 4) rfl b4 HH.out.e4 (.agg Z.toArray) HZ.out ?_; rw [show (Value.agg Z.toArray).cells = Z.toArray from rfl])
    | (refine wpList_store_rowTo rfl 28 (.tmp 4) (.tmp 6) rfl rfl b4 T.toArray rfl rfl 28 _ (by rw [← HH.out.e4]; exact heap_alloc_new wb _) (by rw [HI.out]; simp) (by simp [HZL.out]) HO.out ?_; rw [← HH.out.e4, World.setRow_alloc_new, HH.out.e4, HH.out.ed]))
  go_upto_region 45 with fail
  obtain ⟨u, hu⟩ : ∃ u, u = wd := ⟨_, rfl⟩
  rw [← hu]
  have hT2' : [.int .i64 42, .int .i64 n1, .int .i64 n2, .int .i64 n3, .int .i64 n4, .int .i64 n5, .int .i64 n6, .int .i64 n7, .int .i64 n8, .int .i64 n9, .int .i64 n10, .int .i64 n11, .slice a12 l12 c12, .slice a13 l13 c13, .slice a14 l14 c14, .slice a15 l15 c15, .slice a16 l16 c16, .slice a17 l17 c17] = T := by rw [HT.out]; try rfl
  obtain ⟨T2, hT2⟩ : ∃ T2 : List Value, T2 = T := ⟨_, rfl⟩
  have hk4 : Blk u b4 28 T2 := by rw [hu, hT2]; exact HH.out.k4
  have hk3 : Blk u b3 28 Z := by rw [hu]; exact HH.out.k3
  have hb4 : w.heap.size ≤ b4 := by have := HH.out.n34; have := HH.out.n13; have := HH.out.e1; omega
  have hbu : Below w.heap.size w u := by rw [hu]; exact HH.out.bel
  rw [← hT2] at hT2'
  have HI2 : Hid ((Try.prog.info? 28).map (·.size) = some T2.length) := by show _ = _; rw [← hT2', HI.out, HT.out]; try rfl
  have HO2 : Hid (T2.toArray.all (·.oneCell') = true) := by show _ = _; rw [← hT2']; simp; repeat' (first | rfl | constructor)
  have HZ2 : Hid (Z.length = T2.length) := by show _ = _; rw [HZL.out, ← hT2', HT.out]; try rfl
  have HK4 := Lib.hid hk4; have HK3 := Lib.hid hk3; have HBU := Lib.hid hbu; have HT2 := Lib.hid hT2'
  have hb3 : w.heap.size ≤ b3 := by have := HH.out.n13; have := HH.out.e1; omega
  have HB3 := Lib.hid hb3
  clear hT2 hu hk4 hk3 hbu hT2' hb4 hb3 x0 f4
  refine wp_region_still_tail 3 (by kernel_rfl) (by kernel_rfl) ?_
  simp only [List.take_succ_cons, List.take_zero, List.drop_succ_cons, List.drop_zero]
  still_step
  refine wpStill_step (fun K hK => ?_)
  refine still_loadAt (by rfl) 28 (.tmp 4) rfl b4 0 rfl T2 _ (blkR HK4.out) Try.underlying28 rfl HI2.out (hK _ ?_)
  clear hK K
  still_step
  refine wpStill_nil ?_
  change wpList _ _ _ _ _ u.drew
  refine wpList_store_rowTo rfl 28 (.tmp 3) (.tmp 159) rfl rfl b3 T2.toArray rfl rfl 28 Z.toArray HK3.out (by rw [HI2.out]; simp) (by simp [HZ2.out]) HO2.out ?_
  go_wp2_with fail
  have hfin : (u.drew.setRow b3 T2.toArray).heap[b3]? = some (.cells T2.toArray 28 (0, 0)) := setRow_heap u.drew _ _ _ _ _ HK3.out
  refine bodyPost_ret (results_tmp_cell rfl _ (u.drew.setRow b3 T2.toArray) b3 28 T2.toArray (0, 0) _ rfl hfin Try.underlying28 rfl (by rw [HI2.out]; simp)) rfl ⟨?_, ?_⟩
  · rw [HT2.out]; try rfl
  · exact below_setRow HBU.out.drew HB3.out _
set_option maxRecDepth 100000 in
set_option maxHeartbeats 8000000 in
theorem sp_other_33 (n1 n2 n3 n4 n5 n6 n7 n8 n9 n10 n11 : Int) (a12 a13 a14 a15 a16 a17 : Option Addr) (l12 l13 l14 l15 l16 l17 c12 c13 c14 c15 c16 c17 : Nat) (w : World) :
    Calls Try.prog 40 #[.agg #[.int .i64 33, .int .i64 n1, .int .i64 n2, .int .i64 n3, .int .i64 n4, .int .i64 n5, .int .i64 n6, .int .i64 n7, .int .i64 n8, .int .i64 n9, .int .i64 n10, .int .i64 n11, .slice a12 l12 c12, .slice a13 l13 c13, .slice a14 l14 c14, .slice a15 l15 c15, .slice a16 l16 c16, .slice a17 l17 c17]] w
      (SndR (fitS 255 [(l12 : Int)]) [.int .i64 33, .int .i64 n1, .int .i64 n2, .int .i64 n3, .int .i64 n4, .int .i64 n5, .int .i64 n6, .int .i64 n7, .int .i64 n8, .int .i64 n9, .int .i64 n10, .int .i64 n11, .slice none 0 0, .slice a13 l13 c13, .slice a14 l14 c14, .slice a15 l15 c15, .slice a16 l16 c16, .slice a17 l17 c17] w) := by
  obtain ⟨T, hT⟩ : ∃ T : List Value, T = [.int .i64 33, .int .i64 n1, .int .i64 n2, .int .i64 n3, .int .i64 n4, .int .i64 n5, .int .i64 n6, .int .i64 n7, .int .i64 n8, .int .i64 n9, .int .i64 n10, .int .i64 n11, .slice a12 l12 c12, .slice a13 l13 c13, .slice a14 l14 c14, .slice a15 l15 c15, .slice a16 l16 c16, .slice a17 l17 c17] := ⟨_, rfl⟩
  have hA : (#[.int .i64 33, .int .i64 n1, .int .i64 n2, .int .i64 n3, .int .i64 n4, .int .i64 n5, .int .i64 n6, .int .i64 n7, .int .i64 n8, .int .i64 n9, .int .i64 n10, .int .i64 n11, .slice a12 l12 c12, .slice a13 l13 c13, .slice a14 l14 c14, .slice a15 l15 c15, .slice a16 l16 c16, .slice a17 l17 c17] : Array Value) = T.toArray := by rw [hT]
  obtain ⟨Z, hZ⟩ : ∃ Z : List Value, Z = [.int .i64 0, .int .i64 0, .int .i64 0, .int .i64 0, .int .i64 0, .int .i64 0, .int .i64 0, .int .i64 0, .int .i64 0, .int .i64 0, .int .i64 0, .int .i64 0, .slice none 0 0, .slice none 0 0, .slice none 0 0, .slice none 0 0, .slice none 0 0, .slice none 0 0] := ⟨_, rfl⟩
  obtain ⟨wa, wb, wd, b1, b3, b4, H⟩ := laid3 w T Z
  have HH := Lib.hid H
  have hlen : T.length = 18 := by rw [hT]; rfl
  have HI : Hid ((Try.prog.info? 28).map (·.size) = some T.length) := by show _ = _; rw [hlen]; exact infoBlkS
  have HO : Hid (T.toArray.all (·.oneCell') = true) := by show _ = _; rw [hT]; simp; repeat' (first | rfl | constructor)
  have HZ : Hid ((Try.prog.info? 28).bind (·.zero) = some (.agg Z.toArray)) := by show _ = _; rw [hZ]; kernel_rfl
  have HZL : Hid (Z.length = T.length) := by show _ = _; rw [hZ, hT]; rfl
  have x0 : wd.cell? ⟨b1, 0, none⟩ = some (.int .i64 33) := by have := H.k1; rw [hT] at this; exact this.cell 0
  have x12 : wd.cell? ⟨b1, 12, none⟩ = some (.slice a12 l12 c12) := by have := H.k1; rw [hT] at this; exact this.cell 12
  have f4 : ∀ (o : Obj) (i : Nat), (wd.alloc o).frozen? ⟨b4, i, none⟩ = false := fun o i => (H.k4.alloc o).frozen i
  have g12 : ∀ o : Obj, (wd.alloc o).cell? ⟨b4, 12, none⟩ = some (.slice a12 l12 c12) := fun o => by have := H.k4; rw [hT] at this; exact (this.alloc o).cell 12
  have HT := Lib.hid hT
  rw [hA]
  clear hT hA H hlen hZ
  go_enter Try.func40, Try.ntmps40
  go_upto_region 2 with (first
    | (refine Great.wpList_boxTo rfl 28 (.tmp 0) rfl (some 1) rfl b1 HH.out.e1 T.toArray rfl ?_; rw [HH.out.ea])
    | (refine wpList_allocToS rfl 28 rfl (some 3) rfl b3 HH.out.e3 (.agg Z.toArray) HZ.out ?_; rw [show (Value.agg Z.toArray).cells = Z.toArray from rfl, HH.out.eb])
    | (refine wpList_load_mid rfl 28 (.tmp 1) rfl b1 0 rfl T _ (blkR HH.out.kb) Try.underlying28 rfl HI.out ?_)
    | (refine wpList_allocToS rfl 28 rfl (some 4) rfl b4 HH.out.e4 (.agg Z.toArray) HZ.out ?_; rw [show (Value.agg Z.toArray).cells = Z.toArray from rfl])
    | (refine wpList_store_rowTo rfl 28 (.tmp 4) (.tmp 6) rfl rfl b4 T.toArray rfl rfl 28 _ (by rw [← HH.out.e4]; exact heap_alloc_new wb _) (by rw [HI.out]; simp) (by simp [HZL.out]) HO.out ?_; rw [← HH.out.e4, World.setRow_alloc_new, HH.out.e4, HH.out.ed]))
  obtain ⟨q, hq⟩ : ∃ q, fitS 255 [(l12 : Int)] = q := ⟨_, rfl⟩
  have HQ := Lib.hid hq
  clear hq
  go_upto_region 45 with (first
    | (go_at_call 18; refine (fit_newB 255 [(l12 : Int)] _ _ rfl 1 rfl (by decide) HQ.out).mono ?_; rintro e w2 ⟨rfl, rfl⟩))
  obtain ⟨u, hu⟩ : ∃ u, u = ((wd.alloc (.cells #[.int .i64 (l12 : Int)] 3)).setCell ⟨b4, 12, none⟩ (.slice none 0 0)) := ⟨_, rfl⟩
  rw [← hu]
  have hT2' : [.int .i64 33, .int .i64 n1, .int .i64 n2, .int .i64 n3, .int .i64 n4, .int .i64 n5, .int .i64 n6, .int .i64 n7, .int .i64 n8, .int .i64 n9, .int .i64 n10, .int .i64 n11, .slice none 0 0, .slice a13 l13 c13, .slice a14 l14 c14, .slice a15 l15 c15, .slice a16 l16 c16, .slice a17 l17 c17] = (T.set 12 (.slice none 0 0)) := by rw [HT.out]; try rfl
  obtain ⟨T2, hT2⟩ : ∃ T2 : List Value, T2 = (T.set 12 (.slice none 0 0)) := ⟨_, rfl⟩
  have hk4 : Blk u b4 28 T2 := by rw [hu, hT2]; exact ((HH.out.k4.alloc _).set_ 12 _)
  have hk3 : Blk u b3 28 Z := by rw [hu]; exact ((set_heap (by have := HH.out.n34; have := HH.out.n4; simp; omega) (by have := HH.out.n34; omega)).trans (HH.out.k3.alloc _))
  have hb4 : w.heap.size ≤ b4 := by have := HH.out.n34; have := HH.out.n13; have := HH.out.e1; omega
  have hbu : Below w.heap.size w u := by rw [hu]; exact ((HH.out.bel.alloc HH.out.bel.size _).setCell hb4 _)
  rw [← hT2] at hT2'
  have HI2 : Hid ((Try.prog.info? 28).map (·.size) = some T2.length) := by show _ = _; rw [← hT2', HI.out, HT.out]; try rfl
  have HO2 : Hid (T2.toArray.all (·.oneCell') = true) := by show _ = _; rw [← hT2']; simp; repeat' (first | rfl | constructor)
  have HZ2 : Hid (Z.length = T2.length) := by show _ = _; rw [HZL.out, ← hT2', HT.out]; try rfl
  have HK4 := Lib.hid hk4; have HK3 := Lib.hid hk3; have HBU := Lib.hid hbu; have HT2 := Lib.hid hT2'
  have hb3 : w.heap.size ≤ b3 := by have := HH.out.n13; have := HH.out.e1; omega
  have HB3 := Lib.hid hb3
  clear hT2 hu hk4 hk3 hbu hT2' hb4 hb3 x0 x12 f4 g12
  refine wp_region_still_tail 3 (by kernel_rfl) (by kernel_rfl) ?_
  simp only [List.take_succ_cons, List.take_zero, List.drop_succ_cons, List.drop_zero]
  still_step
  refine wpStill_step (fun K hK => ?_)
  refine still_loadAt (by rfl) 28 (.tmp 4) rfl b4 0 rfl T2 _ (blkR HK4.out) Try.underlying28 rfl HI2.out (hK _ ?_)
  clear hK K
  still_step
  refine wpStill_nil ?_
  change wpList _ _ _ _ _ u.drew
  refine wpList_store_rowTo rfl 28 (.tmp 3) (.tmp 159) rfl rfl b3 T2.toArray rfl rfl 28 Z.toArray HK3.out (by rw [HI2.out]; simp) (by simp [HZ2.out]) HO2.out ?_
  go_wp2_with fail
  have hfin : (u.drew.setRow b3 T2.toArray).heap[b3]? = some (.cells T2.toArray 28 (0, 0)) := setRow_heap u.drew _ _ _ _ _ HK3.out
  refine bodyPost_ret (results_tmp_cell rfl _ (u.drew.setRow b3 T2.toArray) b3 28 T2.toArray (0, 0) _ rfl hfin Try.underlying28 rfl (by rw [HI2.out]; simp)) rfl ⟨?_, ?_⟩
  · rw [HQ.out, HT2.out]; try rfl
  · exact below_setRow HBU.out.drew HB3.out _
set_option maxRecDepth 100000 in
set_option maxHeartbeats 8000000 in
theorem sp_other_48 (n1 n2 n3 n4 n5 n6 n7 n8 n9 n10 n11 : Int) (a12 a13 a14 a15 a16 a17 : Option Addr) (l12 l13 l14 l15 l16 l17 c12 c13 c14 c15 c16 c17 : Nat) (w : World) :
    Calls Try.prog 40 #[.agg #[.int .i64 48, .int .i64 n1, .int .i64 n2, .int .i64 n3, .int .i64 n4, .int .i64 n5, .int .i64 n6, .int .i64 n7, .int .i64 n8, .int .i64 n9, .int .i64 n10, .int .i64 n11, .slice a12 l12 c12, .slice a13 l13 c13, .slice a14 l14 c14, .slice a15 l15 c15, .slice a16 l16 c16, .slice a17 l17 c17]] w
      (SndR (fitS 255 [(l12 : Int)]) [.int .i64 48, .int .i64 n1, .int .i64 n2, .int .i64 n3, .int .i64 n4, .int .i64 n5, .int .i64 n6, .int .i64 n7, .int .i64 n8, .int .i64 n9, .int .i64 n10, .int .i64 n11, .slice none 0 0, .slice a13 l13 c13, .slice a14 l14 c14, .slice a15 l15 c15, .slice a16 l16 c16, .slice a17 l17 c17] w) := by
  obtain ⟨T, hT⟩ : ∃ T : List Value, T = [.int .i64 48, .int .i64 n1, .int .i64 n2, .int .i64 n3, .int .i64 n4, .int .i64 n5, .int .i64 n6, .int .i64 n7, .int .i64 n8, .int .i64 n9, .int .i64 n10, .int .i64 n11, .slice a12 l12 c12, .slice a13 l13 c13, .slice a14 l14 c14, .slice a15 l15 c15, .slice a16 l16 c16, .slice a17 l17 c17] := ⟨_, rfl⟩
  have hA : (#[.int .i64 48, .int .i64 n1, .int .i64 n2, .int .i64 n3, .int .i64 n4, .int .i64 n5, .int .i64 n6, .int .i64 n7, .int .i64 n8, .int .i64 n9, .int .i64 n10, .int .i64 n11, .slice a12 l12 c12, .slice a13 l13 c13, .slice a14 l14 c14, .slice a15 l15 c15, .slice a16 l16 c16, .slice a17 l17 c17] : Array Value) = T.toArray := by rw [hT]
  obtain ⟨Z, hZ⟩ : ∃ Z : List Value, Z = [.int .i64 0, .int .i64 0, .int .i64 0, .int .i64 0, .int .i64 0, .int .i64 0, .int .i64 0, .int .i64 0, .int .i64 0, .int .i64 0, .int .i64 0, .int .i64 0, .slice none 0 0, .slice none 0 0, .slice none 0 0, .slice none 0 0, .slice none 0 0, .slice none 0 0] := ⟨_, rfl⟩
  obtain ⟨wa, wb, wd, b1, b3, b4, H⟩ := laid3 w T Z
  have HH := Lib.hid H
  have hlen : T.length = 18 := by rw [hT]; rfl
  have HI : Hid ((Try.prog.info? 28).map (·.size) = some T.length) := by show _ = _; rw [hlen]; exact infoBlkS
  have HO : Hid (T.toArray.all (·.oneCell') = true) := by show _ = _; rw [hT]; simp; repeat' (first | rfl | constructor)
  have HZ : Hid ((Try.prog.info? 28).bind (·.zero) = some (.agg Z.toArray)) := by show _ = _; rw [hZ]; kernel_rfl
  have HZL : Hid (Z.length = T.length) := by show _ = _; rw [hZ, hT]; rfl
  have x0 : wd.cell? ⟨b1, 0, none⟩ = some (.int .i64 48) := by have := H.k1; rw [hT] at this; exact this.cell 0
  have x12 : wd.cell? ⟨b1, 12, none⟩ = some (.slice a12 l12 c12) := by have := H.k1; rw [hT] at this; exact this.cell 12
  have f4 : ∀ (o : Obj) (i : Nat), (wd.alloc o).frozen? ⟨b4, i, none⟩ = false := fun o i => (H.k4.alloc o).frozen i
  have g12 : ∀ o : Obj, (wd.alloc o).cell? ⟨b4, 12, none⟩ = some (.slice a12 l12 c12) := fun o => by have := H.k4; rw [hT] at this; exact (this.alloc o).cell 12
  have HT := Lib.hid hT
  rw [hA]
  clear hT hA H hlen hZ
  go_enter Try.func40, Try.ntmps40
  go_upto_region 2 with (first
    | (refine Great.wpList_boxTo rfl 28 (.tmp 0) rfl (some 1) rfl b1 HH.out.e1 T.toArray rfl ?_; rw [HH.out.ea])
    | (refine wpList_allocToS rfl 28 rfl (some 3) rfl b3 HH.out.e3 (.agg Z.toArray) HZ.out ?_; rw [show (Value.agg Z.toArray).cells = Z.toArray from rfl, HH.out.eb])
    | (refine wpList_load_mid rfl 28 (.tmp 1) rfl b1 0 rfl T _ (blkR HH.out.kb) Try.underlying28 rfl HI.out ?_)
    | (refine wpList_allocToS rfl 28 rfl (some 4) rfl b4 HH.out.e4 (.agg Z.toArray) HZ.out ?_; rw [show (Value.agg Z.toArray).cells = Z.toArray from rfl])
    | (refine wpList_store_rowTo rfl 28 (.tmp 4) (.tmp 6) rfl rfl b4 T.toArray rfl rfl 28 _ (by rw [← HH.out.e4]; exact heap_alloc_new wb _) (by rw [HI.out]; simp) (by simp [HZL.out]) HO.out ?_; rw [← HH.out.e4, World.setRow_alloc_new, HH.out.e4, HH.out.ed]))
  obtain ⟨q, hq⟩ : ∃ q, fitS 255 [(l12 : Int)] = q := ⟨_, rfl⟩
  have HQ := Lib.hid hq
  clear hq
  go_upto_region 45 with (first
    | (go_at_call 18; refine (fit_newB 255 [(l12 : Int)] _ _ rfl 1 rfl (by decide) HQ.out).mono ?_; rintro e w2 ⟨rfl, rfl⟩))
  obtain ⟨u, hu⟩ : ∃ u, u = ((wd.alloc (.cells #[.int .i64 (l12 : Int)] 3)).setCell ⟨b4, 12, none⟩ (.slice none 0 0)) := ⟨_, rfl⟩
  rw [← hu]
  have hT2' : [.int .i64 48, .int .i64 n1, .int .i64 n2, .int .i64 n3, .int .i64 n4, .int .i64 n5, .int .i64 n6, .int .i64 n7, .int .i64 n8, .int .i64 n9, .int .i64 n10, .int .i64 n11, .slice none 0 0, .slice a13 l13 c13, .slice a14 l14 c14, .slice a15 l15 c15, .slice a16 l16 c16, .slice a17 l17 c17] = (T.set 12 (.slice none 0 0)) := by rw [HT.out]; try rfl
  obtain ⟨T2, hT2⟩ : ∃ T2 : List Value, T2 = (T.set 12 (.slice none 0 0)) := ⟨_, rfl⟩
  have hk4 : Blk u b4 28 T2 := by rw [hu, hT2]; exact ((HH.out.k4.alloc _).set_ 12 _)
  have hk3 : Blk u b3 28 Z := by rw [hu]; exact ((set_heap (by have := HH.out.n34; have := HH.out.n4; simp; omega) (by have := HH.out.n34; omega)).trans (HH.out.k3.alloc _))
  have hb4 : w.heap.size ≤ b4 := by have := HH.out.n34; have := HH.out.n13; have := HH.out.e1; omega
  have hbu : Below w.heap.size w u := by rw [hu]; exact ((HH.out.bel.alloc HH.out.bel.size _).setCell hb4 _)
  rw [← hT2] at hT2'
  have HI2 : Hid ((Try.prog.info? 28).map (·.size) = some T2.length) := by show _ = _; rw [← hT2', HI.out, HT.out]; try rfl
  have HO2 : Hid (T2.toArray.all (·.oneCell') = true) := by show _ = _; rw [← hT2']; simp; repeat' (first | rfl | constructor)
  have HZ2 : Hid (Z.length = T2.length) := by show _ = _; rw [HZL.out, ← hT2', HT.out]; try rfl
  have HK4 := Lib.hid hk4; have HK3 := Lib.hid hk3; have HBU := Lib.hid hbu; have HT2 := Lib.hid hT2'
  have hb3 : w.heap.size ≤ b3 := by have := HH.out.n13; have := HH.out.e1; omega
  have HB3 := Lib.hid hb3
  clear hT2 hu hk4 hk3 hbu hT2' hb4 hb3 x0 x12 f4 g12
  refine wp_region_still_tail 3 (by kernel_rfl) (by kernel_rfl) ?_
  simp only [List.take_succ_cons, List.take_zero, List.drop_succ_cons, List.drop_zero]
  still_step
  refine wpStill_step (fun K hK => ?_)
  refine still_loadAt (by rfl) 28 (.tmp 4) rfl b4 0 rfl T2 _ (blkR HK4.out) Try.underlying28 rfl HI2.out (hK _ ?_)
  clear hK K
  still_step
  refine wpStill_nil ?_
  change wpList _ _ _ _ _ u.drew
  refine wpList_store_rowTo rfl 28 (.tmp 3) (.tmp 159) rfl rfl b3 T2.toArray rfl rfl 28 Z.toArray HK3.out (by rw [HI2.out]; simp) (by simp [HZ2.out]) HO2.out ?_
  go_wp2_with fail
  have hfin : (u.drew.setRow b3 T2.toArray).heap[b3]? = some (.cells T2.toArray 28 (0, 0)) := setRow_heap u.drew _ _ _ _ _ HK3.out
  refine bodyPost_ret (results_tmp_cell rfl _ (u.drew.setRow b3 T2.toArray) b3 28 T2.toArray (0, 0) _ rfl hfin Try.underlying28 rfl (by rw [HI2.out]; simp)) rfl ⟨?_, ?_⟩
  · rw [HQ.out, HT2.out]; try rfl
  · exact below_setRow HBU.out.drew HB3.out _
set_option maxRecDepth 100000 in
set_option maxHeartbeats 8000000 in
theorem sp_other_43 (n1 n2 n3 n4 n5 n6 n7 n8 n9 n10 n11 : Int) (a12 a13 a14 a15 a16 a17 : Option Addr) (l12 l13 l14 l15 l16 l17 c12 c13 c14 c15 c16 c17 : Nat) (w : World) :
    Calls Try.prog 40 #[.agg #[.int .i64 43, .int .i64 n1, .int .i64 n2, .int .i64 n3, .int .i64 n4, .int .i64 n5, .int .i64 n6, .int .i64 n7, .int .i64 n8, .int .i64 n9, .int .i64 n10, .int .i64 n11, .slice a12 l12 c12, .slice a13 l13 c13, .slice a14 l14 c14, .slice a15 l15 c15, .slice a16 l16 c16, .slice a17 l17 c17]] w
      (SndR (fitS 1 [n9]) [.int .i64 43, .int .i64 n1, .int .i64 n2, .int .i64 n3, .int .i64 n4, .int .i64 n5, .int .i64 n6, .int .i64 n7, .int .i64 n8, .int .i64 0, .int .i64 n10, .int .i64 n11, .slice a12 l12 c12, .slice a13 l13 c13, .slice a14 l14 c14, .slice a15 l15 c15, .slice a16 l16 c16, .slice a17 l17 c17] w) := by
  obtain ⟨T, hT⟩ : ∃ T : List Value, T = [.int .i64 43, .int .i64 n1, .int .i64 n2, .int .i64 n3, .int .i64 n4, .int .i64 n5, .int .i64 n6, .int .i64 n7, .int .i64 n8, .int .i64 n9, .int .i64 n10, .int .i64 n11, .slice a12 l12 c12, .slice a13 l13 c13, .slice a14 l14 c14, .slice a15 l15 c15, .slice a16 l16 c16, .slice a17 l17 c17] := ⟨_, rfl⟩
  have hA : (#[.int .i64 43, .int .i64 n1, .int .i64 n2, .int .i64 n3, .int .i64 n4, .int .i64 n5, .int .i64 n6, .int .i64 n7, .int .i64 n8, .int .i64 n9, .int .i64 n10, .int .i64 n11, .slice a12 l12 c12, .slice a13 l13 c13, .slice a14 l14 c14, .slice a15 l15 c15, .slice a16 l16 c16, .slice a17 l17 c17] : Array Value) = T.toArray := by rw [hT]
  obtain ⟨Z, hZ⟩ : ∃ Z : List Value, Z = [.int .i64 0, .int .i64 0, .int .i64 0, .int .i64 0, .int .i64 0, .int .i64 0, .int .i64 0, .int .i64 0, .int .i64 0, .int .i64 0, .int .i64 0, .int .i64 0, .slice none 0 0, .slice none 0 0, .slice none 0 0, .slice none 0 0, .slice none 0 0, .slice none 0 0] := ⟨_, rfl⟩
  obtain ⟨wa, wb, wd, b1, b3, b4, H⟩ := laid3 w T Z
  have HH := Lib.hid H
  have hlen : T.length = 18 := by rw [hT]; rfl
  have HI : Hid ((Try.prog.info? 28).map (·.size) = some T.length) := by show _ = _; rw [hlen]; exact infoBlkS
  have HO : Hid (T.toArray.all (·.oneCell') = true) := by show _ = _; rw [hT]; simp; repeat' (first | rfl | constructor)
  have HZ : Hid ((Try.prog.info? 28).bind (·.zero) = some (.agg Z.toArray)) := by show _ = _; rw [hZ]; kernel_rfl
  have HZL : Hid (Z.length = T.length) := by show _ = _; rw [hZ, hT]; rfl
  have x0 : wd.cell? ⟨b1, 0, none⟩ = some (.int .i64 43) := by have := H.k1; rw [hT] at this; exact this.cell 0
  have x9 : wd.cell? ⟨b1, 9, none⟩ = some (.int .i64 n9) := by have := H.k1; rw [hT] at this; exact this.cell 9
  have f4 : ∀ (o : Obj) (i : Nat), (wd.alloc o).frozen? ⟨b4, i, none⟩ = false := fun o i => (H.k4.alloc o).frozen i
  have g9 : ∀ o : Obj, (wd.alloc o).cell? ⟨b4, 9, none⟩ = some (.int .i64 n9) := fun o => by have := H.k4; rw [hT] at this; exact (this.alloc o).cell 9
  have HT := Lib.hid hT
  rw [hA]
  clear hT hA H hlen hZ
  go_enter Try.func40, Try.ntmps40
  go_upto_region 2 with (first
    | (refine Great.wpList_boxTo rfl 28 (.tmp 0) rfl (some 1) rfl b1 HH.out.e1 T.toArray rfl ?_; rw [HH.out.ea])
    | (refine wpList_allocToS rfl 28 rfl (some 3) rfl b3 HH.out.e3 (.agg Z.toArray) HZ.out ?_; rw [show (Value.agg Z.toArray).cells = Z.toArray from rfl, HH.out.eb])
    | (refine wpList_load_mid rfl 28 (.tmp 1) rfl b1 0 rfl T _ (blkR HH.out.kb) Try.underlying28 rfl HI.out ?_)
    | (refine wpList_allocToS rfl 28 rfl (some 4) rfl b4 HH.out.e4 (.agg Z.toArray) HZ.out ?_; rw [show (Value.agg Z.toArray).cells = Z.toArray from rfl])
    | (refine wpList_store_rowTo rfl 28 (.tmp 4) (.tmp 6) rfl rfl b4 T.toArray rfl rfl 28 _ (by rw [← HH.out.e4]; exact heap_alloc_new wb _) (by rw [HI.out]; simp) (by simp [HZL.out]) HO.out ?_; rw [← HH.out.e4, World.setRow_alloc_new, HH.out.e4, HH.out.ed]))
  obtain ⟨q, hq⟩ : ∃ q, fitS 1 [n9] = q := ⟨_, rfl⟩
  have HQ := Lib.hid hq
  clear hq
  go_upto_region 45 with (first
    | (go_at_call 18; refine (fit_newB 1 [n9] _ _ rfl 1 rfl (by decide) HQ.out).mono ?_; rintro e w2 ⟨rfl, rfl⟩))
  obtain ⟨u, hu⟩ : ∃ u, u = ((wd.alloc (.cells #[.int .i64 n9] 3)).setCell ⟨b4, 9, none⟩ (.int .i64 0)) := ⟨_, rfl⟩
  rw [← hu]
  have hT2' : [.int .i64 43, .int .i64 n1, .int .i64 n2, .int .i64 n3, .int .i64 n4, .int .i64 n5, .int .i64 n6, .int .i64 n7, .int .i64 n8, .int .i64 0, .int .i64 n10, .int .i64 n11, .slice a12 l12 c12, .slice a13 l13 c13, .slice a14 l14 c14, .slice a15 l15 c15, .slice a16 l16 c16, .slice a17 l17 c17] = (T.set 9 (.int .i64 0)) := by rw [HT.out]; try rfl
  obtain ⟨T2, hT2⟩ : ∃ T2 : List Value, T2 = (T.set 9 (.int .i64 0)) := ⟨_, rfl⟩
  have hk4 : Blk u b4 28 T2 := by rw [hu, hT2]; exact ((HH.out.k4.alloc _).set_ 9 _)
  have hk3 : Blk u b3 28 Z := by rw [hu]; exact ((set_heap (by have := HH.out.n34; have := HH.out.n4; simp; omega) (by have := HH.out.n34; omega)).trans (HH.out.k3.alloc _))
  have hb4 : w.heap.size ≤ b4 := by have := HH.out.n34; have := HH.out.n13; have := HH.out.e1; omega
  have hbu : Below w.heap.size w u := by rw [hu]; exact ((HH.out.bel.alloc HH.out.bel.size _).setCell hb4 _)
  rw [← hT2] at hT2'
  have HI2 : Hid ((Try.prog.info? 28).map (·.size) = some T2.length) := by show _ = _; rw [← hT2', HI.out, HT.out]; try rfl
  have HO2 : Hid (T2.toArray.all (·.oneCell') = true) := by show _ = _; rw [← hT2']; simp; repeat' (first | rfl | constructor)
  have HZ2 : Hid (Z.length = T2.length) := by show _ = _; rw [HZL.out, ← hT2', HT.out]; try rfl
  have HK4 := Lib.hid hk4; have HK3 := Lib.hid hk3; have HBU := Lib.hid hbu; have HT2 := Lib.hid hT2'
  have hb3 : w.heap.size ≤ b3 := by have := HH.out.n13; have := HH.out.e1; omega
  have HB3 := Lib.hid hb3
  clear hT2 hu hk4 hk3 hbu hT2' hb4 hb3 x0 x9 f4 g9
  refine wp_region_still_tail 3 (by kernel_rfl) (by kernel_rfl) ?_
  simp only [List.take_succ_cons, List.take_zero, List.drop_succ_cons, List.drop_zero]
  still_step
  refine wpStill_step (fun K hK => ?_)
  refine still_loadAt (by rfl) 28 (.tmp 4) rfl b4 0 rfl T2 _ (blkR HK4.out) Try.underlying28 rfl HI2.out (hK _ ?_)
  clear hK K
  still_step
  refine wpStill_nil ?_
  change wpList _ _ _ _ _ u.drew
  refine wpList_store_rowTo rfl 28 (.tmp 3) (.tmp 159) rfl rfl b3 T2.toArray rfl rfl 28 Z.toArray HK3.out (by rw [HI2.out]; simp) (by simp [HZ2.out]) HO2.out ?_
  go_wp2_with fail
  have hfin : (u.drew.setRow b3 T2.toArray).heap[b3]? = some (.cells T2.toArray 28 (0, 0)) := setRow_heap u.drew _ _ _ _ _ HK3.out
  refine bodyPost_ret (results_tmp_cell rfl _ (u.drew.setRow b3 T2.toArray) b3 28 T2.toArray (0, 0) _ rfl hfin Try.underlying28 rfl (by rw [HI2.out]; simp)) rfl ⟨?_, ?_⟩
  · rw [HQ.out, HT2.out]; try rfl
  · exact below_setRow HBU.out.drew HB3.out _
set_option maxRecDepth 100000 in
set_option maxHeartbeats 8000000 in
theorem sp_other_49 (n1 n2 n3 n4 n5 n6 n7 n8 n9 n10 n11 : Int) (a12 a13 a14 a15 a16 a17 : Option Addr) (l12 l13 l14 l15 l16 l17 c12 c13 c14 c15 c16 c17 : Nat) (w : World) :
    Calls Try.prog 40 #[.agg #[.int .i64 49, .int .i64 n1, .int .i64 n2, .int .i64 n3, .int .i64 n4, .int .i64 n5, .int .i64 n6, .int .i64 n7, .int .i64 n8, .int .i64 n9, .int .i64 n10, .int .i64 n11, .slice a12 l12 c12, .slice a13 l13 c13, .slice a14 l14 c14, .slice a15 l15 c15, .slice a16 l16 c16, .slice a17 l17 c17]] w
      (SndR (fitS 255 [n8, (l12 : Int)]) [.int .i64 49, .int .i64 n1, .int .i64 n2, .int .i64 n3, .int .i64 n4, .int .i64 n5, .int .i64 n6, .int .i64 n7, .int .i64 0, .int .i64 n9, .int .i64 n10, .int .i64 n11, .slice none 0 0, .slice a13 l13 c13, .slice a14 l14 c14, .slice a15 l15 c15, .slice a16 l16 c16, .slice a17 l17 c17] w) := by
  obtain ⟨T, hT⟩ : ∃ T : List Value, T = [.int .i64 49, .int .i64 n1, .int .i64 n2, .int .i64 n3, .int .i64 n4, .int .i64 n5, .int .i64 n6, .int .i64 n7, .int .i64 n8, .int .i64 n9, .int .i64 n10, .int .i64 n11, .slice a12 l12 c12, .slice a13 l13 c13, .slice a14 l14 c14, .slice a15 l15 c15, .slice a16 l16 c16, .slice a17 l17 c17] := ⟨_, rfl⟩
  have hA : (#[.int .i64 49, .int .i64 n1, .int .i64 n2, .int .i64 n3, .int .i64 n4, .int .i64 n5, .int .i64 n6, .int .i64 n7, .int .i64 n8, .int .i64 n9, .int .i64 n10, .int .i64 n11, .slice a12 l12 c12, .slice a13 l13 c13, .slice a14 l14 c14, .slice a15 l15 c15, .slice a16 l16 c16, .slice a17 l17 c17] : Array Value) = T.toArray := by rw [hT]
  obtain ⟨Z, hZ⟩ : ∃ Z : List Value, Z = [.int .i64 0, .int .i64 0, .int .i64 0, .int .i64 0, .int .i64 0, .int .i64 0, .int .i64 0, .int .i64 0, .int .i64 0, .int .i64 0, .int .i64 0, .int .i64 0, .slice none 0 0, .slice none 0 0, .slice none 0 0, .slice none 0 0, .slice none 0 0, .slice none 0 0] := ⟨_, rfl⟩
  obtain ⟨wa, wb, wd, b1, b3, b4, H⟩ := laid3 w T Z
  have HH := Lib.hid H
  have hlen : T.length = 18 := by rw [hT]; rfl
  have HI : Hid ((Try.prog.info? 28).map (·.size) = some T.length) := by show _ = _; rw [hlen]; exact infoBlkS
  have HO : Hid (T.toArray.all (·.oneCell') = true) := by show _ = _; rw [hT]; simp; repeat' (first | rfl | constructor)
  have HZ : Hid ((Try.prog.info? 28).bind (·.zero) = some (.agg Z.toArray)) := by show _ = _; rw [hZ]; kernel_rfl
  have HZL : Hid (Z.length = T.length) := by show _ = _; rw [hZ, hT]; rfl
  have x0 : wd.cell? ⟨b1, 0, none⟩ = some (.int .i64 49) := by have := H.k1; rw [hT] at this; exact this.cell 0
  have x8 : wd.cell? ⟨b1, 8, none⟩ = some (.int .i64 n8) := by have := H.k1; rw [hT] at this; exact this.cell 8
  have x12 : wd.cell? ⟨b1, 12, none⟩ = some (.slice a12 l12 c12) := by have := H.k1; rw [hT] at this; exact this.cell 12
  have f4 : ∀ (o : Obj) (i : Nat), (wd.alloc o).frozen? ⟨b4, i, none⟩ = false := fun o i => (H.k4.alloc o).frozen i
  have g8 : ∀ o : Obj, (wd.alloc o).cell? ⟨b4, 8, none⟩ = some (.int .i64 n8) := fun o => by have := H.k4; rw [hT] at this; exact (this.alloc o).cell 8
  have g12 : ∀ o : Obj, (wd.alloc o).cell? ⟨b4, 12, none⟩ = some (.slice a12 l12 c12) := fun o => by have := H.k4; rw [hT] at this; exact (this.alloc o).cell 12
  have HT := Lib.hid hT
  rw [hA]
  clear hT hA H hlen hZ
  go_enter Try.func40, Try.ntmps40
  go_upto_region 2 with (first
    | (refine Great.wpList_boxTo rfl 28 (.tmp 0) rfl (some 1) rfl b1 HH.out.e1 T.toArray rfl ?_; rw [HH.out.ea])
    | (refine wpList_allocToS rfl 28 rfl (some 3) rfl b3 HH.out.e3 (.agg Z.toArray) HZ.out ?_; rw [show (Value.agg Z.toArray).cells = Z.toArray from rfl, HH.out.eb])
    | (refine wpList_load_mid rfl 28 (.tmp 1) rfl b1 0 rfl T _ (blkR HH.out.kb) Try.underlying28 rfl HI.out ?_)
    | (refine wpList_allocToS rfl 28 rfl (some 4) rfl b4 HH.out.e4 (.agg Z.toArray) HZ.out ?_; rw [show (Value.agg Z.toArray).cells = Z.toArray from rfl])
    | (refine wpList_store_rowTo rfl 28 (.tmp 4) (.tmp 6) rfl rfl b4 T.toArray rfl rfl 28 _ (by rw [← HH.out.e4]; exact heap_alloc_new wb _) (by rw [HI.out]; simp) (by simp [HZL.out]) HO.out ?_; rw [← HH.out.e4, World.setRow_alloc_new, HH.out.e4, HH.out.ed]))
  obtain ⟨q, hq⟩ : ∃ q, fitS 255 [n8, (l12 : Int)] = q := ⟨_, rfl⟩
  have HQ := Lib.hid hq
  clear hq
  go_upto_region 45 with (first
    | (go_at_call 18; refine (fit_newB 255 [n8, (l12 : Int)] _ _ rfl 2 rfl (by decide) HQ.out).mono ?_; rintro e w2 ⟨rfl, rfl⟩))
  obtain ⟨u, hu⟩ : ∃ u, u = (((wd.alloc (.cells #[.int .i64 n8, .int .i64 (l12 : Int)] 3)).setCell ⟨b4, 8, none⟩ (.int .i64 0)).setCell ⟨b4, 12, none⟩ (.slice none 0 0)) := ⟨_, rfl⟩
  rw [← hu]
  have hT2' : [.int .i64 49, .int .i64 n1, .int .i64 n2, .int .i64 n3, .int .i64 n4, .int .i64 n5, .int .i64 n6, .int .i64 n7, .int .i64 0, .int .i64 n9, .int .i64 n10, .int .i64 n11, .slice none 0 0, .slice a13 l13 c13, .slice a14 l14 c14, .slice a15 l15 c15, .slice a16 l16 c16, .slice a17 l17 c17] = ((T.set 8 (.int .i64 0)).set 12 (.slice none 0 0)) := by rw [HT.out]; try rfl
  obtain ⟨T2, hT2⟩ : ∃ T2 : List Value, T2 = ((T.set 8 (.int .i64 0)).set 12 (.slice none 0 0)) := ⟨_, rfl⟩
  have hk4 : Blk u b4 28 T2 := by rw [hu, hT2]; exact (((HH.out.k4.alloc _).set_ 8 _).set_ 12 _)
  have hk3 : Blk u b3 28 Z := by rw [hu]; exact ((set_heap (by have := HH.out.n34; have := HH.out.n4; simp; omega) (by have := HH.out.n34; omega)).trans ((set_heap (by have := HH.out.n34; have := HH.out.n4; simp; omega) (by have := HH.out.n34; omega)).trans (HH.out.k3.alloc _)))
  have hb4 : w.heap.size ≤ b4 := by have := HH.out.n34; have := HH.out.n13; have := HH.out.e1; omega
  have hbu : Below w.heap.size w u := by rw [hu]; exact (((HH.out.bel.alloc HH.out.bel.size _).setCell hb4 _).setCell hb4 _)
  rw [← hT2] at hT2'
  have HI2 : Hid ((Try.prog.info? 28).map (·.size) = some T2.length) := by show _ = _; rw [← hT2', HI.out, HT.out]; try rfl
  have HO2 : Hid (T2.toArray.all (·.oneCell') = true) := by show _ = _; rw [← hT2']; simp; repeat' (first | rfl | constructor)
  have HZ2 : Hid (Z.length = T2.length) := by show _ = _; rw [HZL.out, ← hT2', HT.out]; try rfl
  have HK4 := Lib.hid hk4; have HK3 := Lib.hid hk3; have HBU := Lib.hid hbu; have HT2 := Lib.hid hT2'
  have hb3 : w.heap.size ≤ b3 := by have := HH.out.n13; have := HH.out.e1; omega
  have HB3 := Lib.hid hb3
  clear hT2 hu hk4 hk3 hbu hT2' hb4 hb3 x0 x8 x12 f4 g8 g12
  refine wp_region_still_tail 3 (by kernel_rfl) (by kernel_rfl) ?_
  simp only [List.take_succ_cons, List.take_zero, List.drop_succ_cons, List.drop_zero]
  still_step
  refine wpStill_step (fun K hK => ?_)
  refine still_loadAt (by rfl) 28 (.tmp 4) rfl b4 0 rfl T2 _ (blkR HK4.out) Try.underlying28 rfl HI2.out (hK _ ?_)
  clear hK K
  still_step
  refine wpStill_nil ?_
  change wpList _ _ _ _ _ u.drew
  refine wpList_store_rowTo rfl 28 (.tmp 3) (.tmp 159) rfl rfl b3 T2.toArray rfl rfl 28 Z.toArray HK3.out (by rw [HI2.out]; simp) (by simp [HZ2.out]) HO2.out ?_
  go_wp2_with fail
  have hfin : (u.drew.setRow b3 T2.toArray).heap[b3]? = some (.cells T2.toArray 28 (0, 0)) := setRow_heap u.drew _ _ _ _ _ HK3.out
  refine bodyPost_ret (results_tmp_cell rfl _ (u.drew.setRow b3 T2.toArray) b3 28 T2.toArray (0, 0) _ rfl hfin Try.underlying28 rfl (by rw [HI2.out]; simp)) rfl ⟨?_, ?_⟩
  · rw [HQ.out, HT2.out]; try rfl
  · exact below_setRow HBU.out.drew HB3.out _
set_option maxRecDepth 100000 in
set_option maxHeartbeats 8000000 in
theorem sp_sound_16 (n1 n2 n3 n4 n5 n6 n7 n8 n9 n10 n11 : Int) (a12 a13 a14 a15 a16 a17 : Option Addr) (l12 l13 l14 l15 l16 l17 c12 c13 c14 c15 c16 c17 : Nat) (w : World) :
    Calls Try.prog 19 #[.agg #[.int .i64 16, .int .i64 n1, .int .i64 n2, .int .i64 n3, .int .i64 n4, .int .i64 n5, .int .i64 n6, .int .i64 n7, .int .i64 n8, .int .i64 n9, .int .i64 n10, .int .i64 n11, .slice a12 l12 c12, .slice a13 l13 c13, .slice a14 l14 c14, .slice a15 l15 c15, .slice a16 l16 c16, .slice a17 l17 c17]] w
      (SndR (fitS 65535 [n1, (l12 : Int)]) [.int .i64 16, .int .i64 0, .int .i64 n2, .int .i64 n3, .int .i64 n4, .int .i64 n5, .int .i64 n6, .int .i64 n7, .int .i64 n8, .int .i64 n9, .int .i64 n10, .int .i64 n11, .slice none 0 0, .slice a13 l13 c13, .slice a14 l14 c14, .slice a15 l15 c15, .slice a16 l16 c16, .slice a17 l17 c17] w) := by
  obtain ⟨T, hT⟩ : ∃ T : List Value, T = [.int .i64 16, .int .i64 n1, .int .i64 n2, .int .i64 n3, .int .i64 n4, .int .i64 n5, .int .i64 n6, .int .i64 n7, .int .i64 n8, .int .i64 n9, .int .i64 n10, .int .i64 n11, .slice a12 l12 c12, .slice a13 l13 c13, .slice a14 l14 c14, .slice a15 l15 c15, .slice a16 l16 c16, .slice a17 l17 c17] := ⟨_, rfl⟩
  have hA : (#[.int .i64 16, .int .i64 n1, .int .i64 n2, .int .i64 n3, .int .i64 n4, .int .i64 n5, .int .i64 n6, .int .i64 n7, .int .i64 n8, .int .i64 n9, .int .i64 n10, .int .i64 n11, .slice a12 l12 c12, .slice a13 l13 c13, .slice a14 l14 c14, .slice a15 l15 c15, .slice a16 l16 c16, .slice a17 l17 c17] : Array Value) = T.toArray := by rw [hT]
  obtain ⟨Z, hZ⟩ : ∃ Z : List Value, Z = [.int .i64 0, .int .i64 0, .int .i64 0, .int .i64 0, .int .i64 0, .int .i64 0, .int .i64 0, .int .i64 0, .int .i64 0, .int .i64 0, .int .i64 0, .int .i64 0, .slice none 0 0, .slice none 0 0, .slice none 0 0, .slice none 0 0, .slice none 0 0, .slice none 0 0] := ⟨_, rfl⟩
  obtain ⟨wa, wb, wd, b1, b3, b4, H⟩ := laid3 w T Z
  have HH := Lib.hid H
  have hlen : T.length = 18 := by rw [hT]; rfl
  have HI : Hid ((Try.prog.info? 28).map (·.size) = some T.length) := by show _ = _; rw [hlen]; exact infoBlkS
  have HO : Hid (T.toArray.all (·.oneCell') = true) := by show _ = _; rw [hT]; simp; repeat' (first | rfl | constructor)
  have HZ : Hid ((Try.prog.info? 28).bind (·.zero) = some (.agg Z.toArray)) := by show _ = _; rw [hZ]; kernel_rfl
  have HZL : Hid (Z.length = T.length) := by show _ = _; rw [hZ, hT]; rfl
  have x0 : wd.cell? ⟨b1, 0, none⟩ = some (.int .i64 16) := by have := H.k1; rw [hT] at this; exact this.cell 0
  have x1 : wd.cell? ⟨b1, 1, none⟩ = some (.int .i64 n1) := by have := H.k1; rw [hT] at this; exact this.cell 1
  have x12 : wd.cell? ⟨b1, 12, none⟩ = some (.slice a12 l12 c12) := by have := H.k1; rw [hT] at this; exact this.cell 12
  have f4 : ∀ (o : Obj) (i : Nat), (wd.alloc o).frozen? ⟨b4, i, none⟩ = false := fun o i => (H.k4.alloc o).frozen i
  have g1 : ∀ o : Obj, (wd.alloc o).cell? ⟨b4, 1, none⟩ = some (.int .i64 n1) := fun o => by have := H.k4; rw [hT] at this; exact (this.alloc o).cell 1
  have g12 : ∀ o : Obj, (wd.alloc o).cell? ⟨b4, 12, none⟩ = some (.slice a12 l12 c12) := fun o => by have := H.k4; rw [hT] at this; exact (this.alloc o).cell 12
  have HT := Lib.hid hT
  rw [hA]
  clear hT hA H hlen hZ
  go_enter Try.func19, Try.ntmps19
  go_upto_region 2 with (first
    | (refine Great.wpList_boxTo rfl 28 (.tmp 0) rfl (some 1) rfl b1 HH.out.e1 T.toArray rfl ?_; rw [HH.out.ea])
    | (refine wpList_allocToS rfl 28 rfl (some 3) rfl b3 HH.out.e3 (.agg Z.toArray) HZ.out ?_; rw [show (Value.agg Z.toArray).cells = Z.toArray from rfl, HH.out.eb])
    | (refine wpList_load_mid rfl 28 (.tmp 1) rfl b1 0 rfl T _ (blkR HH.out.kb) Try.underlying28 rfl HI.out ?_)
    | (refine wpList_allocToS rfl 28 rfl (some 4) rfl b4 HH.out.e4 (.agg Z.toArray) HZ.out ?_; rw [show (Value.agg Z.toArray).cells = Z.toArray from rfl])
    | (refine wpList_store_rowTo rfl 28 (.tmp 4) (.tmp 6) rfl rfl b4 T.toArray rfl rfl 28 _ (by rw [← HH.out.e4]; exact heap_alloc_new wb _) (by rw [HI.out]; simp) (by simp [HZL.out]) HO.out ?_; rw [← HH.out.e4, World.setRow_alloc_new, HH.out.e4, HH.out.ed]))
  obtain ⟨q, hq⟩ : ∃ q, fitS 65535 [n1, (l12 : Int)] = q := ⟨_, rfl⟩
  have HQ := Lib.hid hq
  clear hq
  go_upto_region 32 with (first
    | (go_at_call 18; refine (fit_newB 65535 [n1, (l12 : Int)] _ _ rfl 2 rfl (by decide) HQ.out).mono ?_; rintro e w2 ⟨rfl, rfl⟩))
  obtain ⟨u, hu⟩ : ∃ u, u = (((wd.alloc (.cells #[.int .i64 n1, .int .i64 (l12 : Int)] 3)).setCell ⟨b4, 1, none⟩ (.int .i64 0)).setCell ⟨b4, 12, none⟩ (.slice none 0 0)) := ⟨_, rfl⟩
  rw [← hu]
  have hT2' : [.int .i64 16, .int .i64 0, .int .i64 n2, .int .i64 n3, .int .i64 n4, .int .i64 n5, .int .i64 n6, .int .i64 n7, .int .i64 n8, .int .i64 n9, .int .i64 n10, .int .i64 n11, .slice none 0 0, .slice a13 l13 c13, .slice a14 l14 c14, .slice a15 l15 c15, .slice a16 l16 c16, .slice a17 l17 c17] = ((T.set 1 (.int .i64 0)).set 12 (.slice none 0 0)) := by rw [HT.out]; try rfl
  obtain ⟨T2, hT2⟩ : ∃ T2 : List Value, T2 = ((T.set 1 (.int .i64 0)).set 12 (.slice none 0 0)) := ⟨_, rfl⟩
  have hk4 : Blk u b4 28 T2 := by rw [hu, hT2]; exact (((HH.out.k4.alloc _).set_ 1 _).set_ 12 _)
  have hk3 : Blk u b3 28 Z := by rw [hu]; exact ((set_heap (by have := HH.out.n34; have := HH.out.n4; simp; omega) (by have := HH.out.n34; omega)).trans ((set_heap (by have := HH.out.n34; have := HH.out.n4; simp; omega) (by have := HH.out.n34; omega)).trans (HH.out.k3.alloc _)))
  have hb4 : w.heap.size ≤ b4 := by have := HH.out.n34; have := HH.out.n13; have := HH.out.e1; omega
  have hbu : Below w.heap.size w u := by rw [hu]; exact (((HH.out.bel.alloc HH.out.bel.size _).setCell hb4 _).setCell hb4 _)
  rw [← hT2] at hT2'
  have HI2 : Hid ((Try.prog.info? 28).map (·.size) = some T2.length) := by show _ = _; rw [← hT2', HI.out, HT.out]; try rfl
  have HO2 : Hid (T2.toArray.all (·.oneCell') = true) := by show _ = _; rw [← hT2']; simp; repeat' (first | rfl | constructor)
  have HZ2 : Hid (Z.length = T2.length) := by show _ = _; rw [HZL.out, ← hT2', HT.out]; try rfl
  have HK4 := Lib.hid hk4; have HK3 := Lib.hid hk3; have HBU := Lib.hid hbu; have HT2 := Lib.hid hT2'
  have hb3 : w.heap.size ≤ b3 := by have := HH.out.n13; have := HH.out.e1; omega
  have HB3 := Lib.hid hb3
  clear hT2 hu hk4 hk3 hbu hT2' hb4 hb3 x0 x1 x12 f4 g1 g12
  refine wp_region_still_tail 3 (by kernel_rfl) (by kernel_rfl) ?_
  simp only [List.take_succ_cons, List.take_zero, List.drop_succ_cons, List.drop_zero]
  still_step
  refine wpStill_step (fun K hK => ?_)
  refine still_loadAt (by rfl) 28 (.tmp 4) rfl b4 0 rfl T2 _ (blkR HK4.out) Try.underlying28 rfl HI2.out (hK _ ?_)
  clear hK K
  still_step
  refine wpStill_nil ?_
  change wpList _ _ _ _ _ u.drew
  refine wpList_store_rowTo rfl 28 (.tmp 3) (.tmp 211) rfl rfl b3 T2.toArray rfl rfl 28 Z.toArray HK3.out (by rw [HI2.out]; simp) (by simp [HZ2.out]) HO2.out ?_
  go_wp2_with fail
  have hfin : (u.drew.setRow b3 T2.toArray).heap[b3]? = some (.cells T2.toArray 28 (0, 0)) := setRow_heap u.drew _ _ _ _ _ HK3.out
  refine bodyPost_ret (results_tmp_cell rfl _ (u.drew.setRow b3 T2.toArray) b3 28 T2.toArray (0, 0) _ rfl hfin Try.underlying28 rfl (by rw [HI2.out]; simp)) rfl ⟨?_, ?_⟩
  · rw [HQ.out, HT2.out]; try rfl
  · exact below_setRow HBU.out.drew HB3.out _
set_option maxRecDepth 100000 in
set_option maxHeartbeats 8000000 in
theorem sp_sound_18 (n1 n2 n3 n4 n5 n6 n7 n8 n9 n10 n11 : Int) (a12 a13 a14 a15 a16 a17 : Option Addr) (l12 l13 l14 l15 l16 l17 c12 c13 c14 c15 c16 c17 : Nat) (w : World) :
    Calls Try.prog 19 #[.agg #[.int .i64 18, .int .i64 n1, .int .i64 n2, .int .i64 n3, .int .i64 n4, .int .i64 n5, .int .i64 n6, .int .i64 n7, .int .i64 n8, .int .i64 n9, .int .i64 n10, .int .i64 n11, .slice a12 l12 c12, .slice a13 l13 c13, .slice a14 l14 c14, .slice a15 l15 c15, .slice a16 l16 c16, .slice a17 l17 c17]] w
      (SndR (fitS 65535 [n7, n8]) [.int .i64 18, .int .i64 n1, .int .i64 n2, .int .i64 n3, .int .i64 n4, .int .i64 n5, .int .i64 n6, .int .i64 0, .int .i64 0, .int .i64 n9, .int .i64 n10, .int .i64 n11, .slice a12 l12 c12, .slice a13 l13 c13, .slice a14 l14 c14, .slice a15 l15 c15, .slice a16 l16 c16, .slice a17 l17 c17] w) := by
  obtain ⟨T, hT⟩ : ∃ T : List Value, T = [.int .i64 18, .int .i64 n1, .int .i64 n2, .int .i64 n3, .int .i64 n4, .int .i64 n5, .int .i64 n6, .int .i64 n7, .int .i64 n8, .int .i64 n9, .int .i64 n10, .int .i64 n11, .slice a12 l12 c12, .slice a13 l13 c13, .slice a14 l14 c14, .slice a15 l15 c15, .slice a16 l16 c16, .slice a17 l17 c17] := ⟨_, rfl⟩
  have hA : (#[.int .i64 18, .int .i64 n1, .int .i64 n2, .int .i64 n3, .int .i64 n4, .int .i64 n5, .int .i64 n6, .int .i64 n7, .int .i64 n8, .int .i64 n9, .int .i64 n10, .int .i64 n11, .slice a12 l12 c12, .slice a13 l13 c13, .slice a14 l14 c14, .slice a15 l15 c15, .slice a16 l16 c16, .slice a17 l17 c17] : Array Value) = T.toArray := by rw [hT]
  obtain ⟨Z, hZ⟩ : ∃ Z : List Value, Z = [.int .i64 0, .int .i64 0, .int .i64 0, .int .i64 0, .int .i64 0, .int .i64 0, .int .i64 0, .int .i64 0, .int .i64 0, .int .i64 0, .int .i64 0, .int .i64 0, .slice none 0 0, .slice none 0 0, .slice none 0 0, .slice none 0 0, .slice none 0 0, .slice none 0 0] := ⟨_, rfl⟩
  obtain ⟨wa, wb, wd, b1, b3, b4, H⟩ := laid3 w T Z
  have HH := Lib.hid H
  have hlen : T.length = 18 := by rw [hT]; rfl
  have HI : Hid ((Try.prog.info? 28).map (·.size) = some T.length) := by show _ = _; rw [hlen]; exact infoBlkS
  have HO : Hid (T.toArray.all (·.oneCell') = true) := by show _ = _; rw [hT]; simp; repeat' (first | rfl | constructor)
  have HZ : Hid ((Try.prog.info? 28).bind (·.zero) = some (.agg Z.toArray)) := by show _ = _; rw [hZ]; kernel_rfl
  have HZL : Hid (Z.length = T.length) := by show _ = _; rw [hZ, hT]; rfl
  have x0 : wd.cell? ⟨b1, 0, none⟩ = some (.int .i64 18) := by have := H.k1; rw [hT] at this; exact this.cell 0
  have x7 : wd.cell? ⟨b1, 7, none⟩ = some (.int .i64 n7) := by have := H.k1; rw [hT] at this; exact this.cell 7
  have x8 : wd.cell? ⟨b1, 8, none⟩ = some (.int .i64 n8) := by have := H.k1; rw [hT] at this; exact this.cell 8
  have f4 : ∀ (o : Obj) (i : Nat), (wd.alloc o).frozen? ⟨b4, i, none⟩ = false := fun o i => (H.k4.alloc o).frozen i
  have g7 : ∀ o : Obj, (wd.alloc o).cell? ⟨b4, 7, none⟩ = some (.int .i64 n7) := fun o => by have := H.k4; rw [hT] at this; exact (this.alloc o).cell 7
  have g8 : ∀ o : Obj, (wd.alloc o).cell? ⟨b4, 8, none⟩ = some (.int .i64 n8) := fun o => by have := H.k4; rw [hT] at this; exact (this.alloc o).cell 8
  have HT := Lib.hid hT
  rw [hA]
  clear hT hA H hlen hZ
  go_enter Try.func19, Try.ntmps19
  go_upto_region 2 with (first
    | (refine Great.wpList_boxTo rfl 28 (.tmp 0) rfl (some 1) rfl b1 HH.out.e1 T.toArray rfl ?_; rw [HH.out.ea])
    | (refine wpList_allocToS rfl 28 rfl (some 3) rfl b3 HH.out.e3 (.agg Z.toArray) HZ.out ?_; rw [show (Value.agg Z.toArray).cells = Z.toArray from rfl, HH.out.eb])
    | (refine wpList_load_mid rfl 28 (.tmp 1) rfl b1 0 rfl T _ (blkR HH.out.kb) Try.underlying28 rfl HI.out ?_)
    | (refine wpList_allocToS rfl 28 rfl (some 4) rfl b4 HH.out.e4 (.agg Z.toArray) HZ.out ?_; rw [show (Value.agg Z.toArray).cells = Z.toArray from rfl])
    | (refine wpList_store_rowTo rfl 28 (.tmp 4) (.tmp 6) rfl rfl b4 T.toArray rfl rfl 28 _ (by rw [← HH.out.e4]; exact heap_alloc_new wb _) (by rw [HI.out]; simp) (by simp [HZL.out]) HO.out ?_; rw [← HH.out.e4, World.setRow_alloc_new, HH.out.e4, HH.out.ed]))
  obtain ⟨q, hq⟩ : ∃ q, fitS 65535 [n7, n8] = q := ⟨_, rfl⟩
  have HQ := Lib.hid hq
  clear hq
  go_upto_region 32 with (first
    | (go_at_call 18; refine (fit_newB 65535 [n7, n8] _ _ rfl 2 rfl (by decide) HQ.out).mono ?_; rintro e w2 ⟨rfl, rfl⟩))
  obtain ⟨u, hu⟩ : ∃ u, u = (((wd.alloc (.cells #[.int .i64 n7, .int .i64 n8] 3)).setCell ⟨b4, 7, none⟩ (.int .i64 0)).setCell ⟨b4, 8, none⟩ (.int .i64 0)) := ⟨_, rfl⟩
  rw [← hu]
  have hT2' : [.int .i64 18, .int .i64 n1, .int .i64 n2, .int .i64 n3, .int .i64 n4, .int .i64 n5, .int .i64 n6, .int .i64 0, .int .i64 0, .int .i64 n9, .int .i64 n10, .int .i64 n11, .slice a12 l12 c12, .slice a13 l13 c13, .slice a14 l14 c14, .slice a15 l15 c15, .slice a16 l16 c16, .slice a17 l17 c17] = ((T.set 7 (.int .i64 0)).set 8 (.int .i64 0)) := by rw [HT.out]; try rfl
  obtain ⟨T2, hT2⟩ : ∃ T2 : List Value, T2 = ((T.set 7 (.int .i64 0)).set 8 (.int .i64 0)) := ⟨_, rfl⟩
  have hk4 : Blk u b4 28 T2 := by rw [hu, hT2]; exact (((HH.out.k4.alloc _).set_ 7 _).set_ 8 _)
  have hk3 : Blk u b3 28 Z := by rw [hu]; exact ((set_heap (by have := HH.out.n34; have := HH.out.n4; simp; omega) (by have := HH.out.n34; omega)).trans ((set_heap (by have := HH.out.n34; have := HH.out.n4; simp; omega) (by have := HH.out.n34; omega)).trans (HH.out.k3.alloc _)))
  have hb4 : w.heap.size ≤ b4 := by have := HH.out.n34; have := HH.out.n13; have := HH.out.e1; omega
  have hbu : Below w.heap.size w u := by rw [hu]; exact (((HH.out.bel.alloc HH.out.bel.size _).setCell hb4 _).setCell hb4 _)
  rw [← hT2] at hT2'
  have HI2 : Hid ((Try.prog.info? 28).map (·.size) = some T2.length) := by show _ = _; rw [← hT2', HI.out, HT.out]; try rfl
  have HO2 : Hid (T2.toArray.all (·.oneCell') = true) := by show _ = _; rw [← hT2']; simp; repeat' (first | rfl | constructor)
  have HZ2 : Hid (Z.length = T2.length) := by show _ = _; rw [HZL.out, ← hT2', HT.out]; try rfl
  have HK4 := Lib.hid hk4; have HK3 := Lib.hid hk3; have HBU := Lib.hid hbu; have HT2 := Lib.hid hT2'
  have hb3 : w.heap.size ≤ b3 := by have := HH.out.n13; have := HH.out.e1; omega
  have HB3 := Lib.hid hb3
  clear hT2 hu hk4 hk3 hbu hT2' hb4 hb3 x0 x7 x8 f4 g7 g8
  refine wp_region_still_tail 3 (by kernel_rfl) (by kernel_rfl) ?_
  simp only [List.take_succ_cons, List.take_zero, List.drop_succ_cons, List.drop_zero]
  still_step
  refine wpStill_step (fun K hK => ?_)
  refine still_loadAt (by rfl) 28 (.tmp 4) rfl b4 0 rfl T2 _ (blkR HK4.out) Try.underlying28 rfl HI2.out (hK _ ?_)
  clear hK K
  still_step
  refine wpStill_nil ?_
  change wpList _ _ _ _ _ u.drew
  refine wpList_store_rowTo rfl 28 (.tmp 3) (.tmp 211) rfl rfl b3 T2.toArray rfl rfl 28 Z.toArray HK3.out (by rw [HI2.out]; simp) (by simp [HZ2.out]) HO2.out ?_
  go_wp2_with fail
  have hfin : (u.drew.setRow b3 T2.toArray).heap[b3]? = some (.cells T2.toArray 28 (0, 0)) := setRow_heap u.drew _ _ _ _ _ HK3.out
  refine bodyPost_ret (results_tmp_cell rfl _ (u.drew.setRow b3 T2.toArray) b3 28 T2.toArray (0, 0) _ rfl hfin Try.underlying28 rfl (by rw [HI2.out]; simp)) rfl ⟨?_, ?_⟩
  · rw [HQ.out, HT2.out]; try rfl
  · exact below_setRow HBU.out.drew HB3.out _
set_option maxRecDepth 100000 in
set_option maxHeartbeats 8000000 in
theorem sp_sound_32 (n1 n2 n3 n4 n5 n6 n7 n8 n9 n10 n11 : Int) (a12 a13 a14 a15 a16 a17 : Option Addr) (l12 l13 l14 l15 l16 l17 c12 c13 c14 c15 c16 c17 : Nat) (w : World) :
    Calls Try.prog 19 #[.agg #[.int .i64 32, .int .i64 n1, .int .i64 n2, .int .i64 n3, .int .i64 n4, .int .i64 n5, .int .i64 n6, .int .i64 n7, .int .i64 n8, .int .i64 n9, .int .i64 n10, .int .i64 n11, .slice a12 l12 c12, .slice a13 l13 c13, .slice a14 l14 c14, .slice a15 l15 c15, .slice a16 l16 c16, .slice a17 l17 c17]] w
      (SndR (fitS 65535 [n1]) [.int .i64 32, .int .i64 0, .int .i64 n2, .int .i64 n3, .int .i64 n4, .int .i64 n5, .int .i64 n6, .int .i64 n7, .int .i64 n8, .int .i64 n9, .int .i64 n10, .int .i64 n11, .slice a12 l12 c12, .slice a13 l13 c13, .slice a14 l14 c14, .slice a15 l15 c15, .slice a16 l16 c16, .slice a17 l17 c17] w) := by
  obtain ⟨T, hT⟩ : ∃ T : List Value, T = [.int .i64 32, .int .i64 n1, .int .i64 n2, .int .i64 n3, .int .i64 n4, .int .i64 n5, .int .i64 n6, .int .i64 n7, .int .i64 n8, .int .i64 n9, .int .i64 n10, .int .i64 n11, .slice a12 l12 c12, .slice a13 l13 c13, .slice a14 l14 c14, .slice a15 l15 c15, .slice a16 l16 c16, .slice a17 l17 c17] := ⟨_, rfl⟩
  have hA : (#[.int .i64 32, .int .i64 n1, .int .i64 n2, .int .i64 n3, .int .i64 n4, .int .i64 n5, .int .i64 n6, .int .i64 n7, .int .i64 n8, .int .i64 n9, .int .i64 n10, .int .i64 n11, .slice a12 l12 c12, .slice a13 l13 c13, .slice a14 l14 c14, .slice a15 l15 c15, .slice a16 l16 c16, .slice a17 l17 c17] : Array Value) = T.toArray := by rw [hT]
  obtain ⟨Z, hZ⟩ : ∃ Z : List Value, Z = [.int .i64 0, .int .i64 0, .int .i64 0, .int .i64 0, .int .i64 0, .int .i64 0, .int .i64 0, .int .i64 0, .int .i64 0, .int .i64 0, .int .i64 0, .int .i64 0, .slice none 0 0, .slice none 0 0, .slice none 0 0, .slice none 0 0, .slice none 0 0, .slice none 0 0] := ⟨_, rfl⟩
  obtain ⟨wa, wb, wd, b1, b3, b4, H⟩ := laid3 w T Z
  have HH := Lib.hid H
  have hlen : T.length = 18 := by rw [hT]; rfl
  have HI : Hid ((Try.prog.info? 28).map (·.size) = some T.length) := by show _ = _; rw [hlen]; exact infoBlkS
  have HO : Hid (T.toArray.all (·.oneCell') = true) := by show _ = _; rw [hT]; simp; repeat' (first | rfl | constructor)
  have HZ : Hid ((Try.prog.info? 28).bind (·.zero) = some (.agg Z.toArray)) := by show _ = _; rw [hZ]; kernel_rfl
  have HZL : Hid (Z.length = T.length) := by show _ = _; rw [hZ, hT]; rfl
  have x0 : wd.cell? ⟨b1, 0, none⟩ = some (.int .i64 32) := by have := H.k1; rw [hT] at this; exact this.cell 0
  have x1 : wd.cell? ⟨b1, 1, none⟩ = some (.int .i64 n1) := by have := H.k1; rw [hT] at this; exact this.cell 1
  have f4 : ∀ (o : Obj) (i : Nat), (wd.alloc o).frozen? ⟨b4, i, none⟩ = false := fun o i => (H.k4.alloc o).frozen i
  have g1 : ∀ o : Obj, (wd.alloc o).cell? ⟨b4, 1, none⟩ = some (.int .i64 n1) := fun o => by have := H.k4; rw [hT] at this; exact (this.alloc o).cell 1
  have HT := Lib.hid hT
  rw [hA]
  clear hT hA H hlen hZ
  go_enter Try.func19, Try.ntmps19
  go_upto_region 2 with (first
    | (refine Great.wpList_boxTo rfl 28 (.tmp 0) rfl (some 1) rfl b1 HH.out.e1 T.toArray rfl ?_; rw [HH.out.ea])
    | (refine wpList_allocToS rfl 28 rfl (some 3) rfl b3 HH.out.e3 (.agg Z.toArray) HZ.out ?_; rw [show (Value.agg Z.toArray).cells = Z.toArray from rfl, HH.out.eb])
    | (refine wpList_load_mid rfl 28 (.tmp 1) rfl b1 0 rfl T _ (blkR HH.out.kb) Try.underlying28 rfl HI.out ?_)
    | (refine wpList_allocToS rfl 28 rfl (some 4) rfl b4 HH.out.e4 (.agg Z.toArray) HZ.out ?_; rw [show (Value.agg Z.toArray).cells = Z.toArray from rfl])
    | (refine wpList_store_rowTo rfl 28 (.tmp 4) (.tmp 6) rfl rfl b4 T.toArray rfl rfl 28 _ (by rw [← HH.out.e4]; exact heap_alloc_new wb _) (by rw [HI.out]; simp) (by simp [HZL.out]) HO.out ?_; rw [← HH.out.e4, World.setRow_alloc_new, HH.out.e4, HH.out.ed]))
  obtain ⟨q, hq⟩ : ∃ q, fitS 65535 [n1] = q := ⟨_, rfl⟩
  have HQ := Lib.hid hq
  clear hq
  go_upto_region 32 with (first
    | (go_at_call 18; refine (fit_newB 65535 [n1] _ _ rfl 1 rfl (by decide) HQ.out).mono ?_; rintro e w2 ⟨rfl, rfl⟩))
  obtain ⟨u, hu⟩ : ∃ u, u = ((wd.alloc (.cells #[.int .i64 n1] 3)).setCell ⟨b4, 1, none⟩ (.int .i64 0)) := ⟨_, rfl⟩
  rw [← hu]
  have hT2' : [.int .i64 32, .int .i64 0, .int .i64 n2, .int .i64 n3, .int .i64 n4, .int .i64 n5, .int .i64 n6, .int .i64 n7, .int .i64 n8, .int .i64 n9, .int .i64 n10, .int .i64 n11, .slice a12 l12 c12, .slice a13 l13 c13, .slice a14 l14 c14, .slice a15 l15 c15, .slice a16 l16 c16, .slice a17 l17 c17] = (T.set 1 (.int .i64 0)) := by rw [HT.out]; try rfl
  obtain ⟨T2, hT2⟩ : ∃ T2 : List Value, T2 = (T.set 1 (.int .i64 0)) := ⟨_, rfl⟩
  have hk4 : Blk u b4 28 T2 := by rw [hu, hT2]; exact ((HH.out.k4.alloc _).set_ 1 _)
  have hk3 : Blk u b3 28 Z := by rw [hu]; exact ((set_heap (by have := HH.out.n34; have := HH.out.n4; simp; omega) (by have := HH.out.n34; omega)).trans (HH.out.k3.alloc _))
  have hb4 : w.heap.size ≤ b4 := by have := HH.out.n34; have := HH.out.n13; have := HH.out.e1; omega
  have hbu : Below w.heap.size w u := by rw [hu]; exact ((HH.out.bel.alloc HH.out.bel.size _).setCell hb4 _)
  rw [← hT2] at hT2'
  have HI2 : Hid ((Try.prog.info? 28).map (·.size) = some T2.length) := by show _ = _; rw [← hT2', HI.out, HT.out]; try rfl
  have HO2 : Hid (T2.toArray.all (·.oneCell') = true) := by show _ = _; rw [← hT2']; simp; repeat' (first | rfl | constructor)
  have HZ2 : Hid (Z.length = T2.length) := by show _ = _; rw [HZL.out, ← hT2', HT.out]; try rfl
  have HK4 := Lib.hid hk4; have HK3 := Lib.hid hk3; have HBU := Lib.hid hbu; have HT2 := Lib.hid hT2'
  have hb3 : w.heap.size ≤ b3 := by have := HH.out.n13; have := HH.out.e1; omega
  have HB3 := Lib.hid hb3
  clear hT2 hu hk4 hk3 hbu hT2' hb4 hb3 x0 x1 f4 g1
  refine wp_region_still_tail 3 (by kernel_rfl) (by kernel_rfl) ?_
  simp only [List.take_succ_cons, List.take_zero, List.drop_succ_cons, List.drop_zero]
  still_step
  refine wpStill_step (fun K hK => ?_)
  refine still_loadAt (by rfl) 28 (.tmp 4) rfl b4 0 rfl T2 _ (blkR HK4.out) Try.underlying28 rfl HI2.out (hK _ ?_)
  clear hK K
  still_step
  refine wpStill_nil ?_
  change wpList _ _ _ _ _ u.drew
  refine wpList_store_rowTo rfl 28 (.tmp 3) (.tmp 211) rfl rfl b3 T2.toArray rfl rfl 28 Z.toArray HK3.out (by rw [HI2.out]; simp) (by simp [HZ2.out]) HO2.out ?_
  go_wp2_with fail
  have hfin : (u.drew.setRow b3 T2.toArray).heap[b3]? = some (.cells T2.toArray 28 (0, 0)) := setRow_heap u.drew _ _ _ _ _ HK3.out
  refine bodyPost_ret (results_tmp_cell rfl _ (u.drew.setRow b3 T2.toArray) b3 28 T2.toArray (0, 0) _ rfl hfin Try.underlying28 rfl (by rw [HI2.out]; simp)) rfl ⟨?_, ?_⟩
  · rw [HQ.out, HT2.out]; try rfl
  · exact below_setRow HBU.out.drew HB3.out _
end Go.Proofs.Ytokidpajialgbaa
