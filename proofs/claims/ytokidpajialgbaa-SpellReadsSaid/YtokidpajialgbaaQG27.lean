/- Texts that are laid together: G27. -/
import Derived.Test.YtokidpajialgbaaQSpV
namespace Go.Proofs.Ytokidpajialgbaa
set_option linter.unusedSimpArgs false
set_option linter.unusedVariables false
open Go.RowKit
set_option maxRecDepth 100000 in
set_option maxHeartbeats 8000000 in
theorem sp_other_40 (n1 n2 n3 n4 n5 n6 n7 n8 n9 n10 n11 : Int) (a12 a13 a14 a15 a16 a17 : Option Addr) (l12 l13 l14 l15 l16 l17 c12 c13 c14 c15 c16 c17 : Nat) (w : World) (ok : Bool) (hit : ∀ u, Below w.heap.size w u → Calls Try.prog 73 #[.agg #[.int .i64 40, .int .i64 n1, .int .i64 n2, .int .i64 n3, .int .i64 n4, .int .i64 n5, .int .i64 n6, .int .i64 n7, .int .i64 n8, .int .i64 n9, .int .i64 n10, .int .i64 n11, .slice a12 l12 c12, .slice a13 l13 c13, .slice a14 l14 c14, .slice a15 l15 c15, .slice a16 l16 c16, .slice a17 l17 c17]] u (SaysB ok u)) :
    Calls Try.prog 40 #[.agg #[.int .i64 40, .int .i64 n1, .int .i64 n2, .int .i64 n3, .int .i64 n4, .int .i64 n5, .int .i64 n6, .int .i64 n7, .int .i64 n8, .int .i64 n9, .int .i64 n10, .int .i64 n11, .slice a12 l12 c12, .slice a13 l13 c13, .slice a14 l14 c14, .slice a15 l15 c15, .slice a16 l16 c16, .slice a17 l17 c17]] w
      (SndR ok [.int .i64 40, .int .i64 n1, .int .i64 n2, .int .i64 n3, .int .i64 n4, .int .i64 n5, .int .i64 n6, .int .i64 n7, .int .i64 n8, .int .i64 n9, .int .i64 n10, .int .i64 n11, .slice a12 l12 c12, .slice a13 l13 c13, .slice none 0 0, .slice a15 l15 c15, .slice a16 l16 c16, .slice a17 l17 c17] w) := by
  obtain ⟨T, hT⟩ : ∃ T : List Value, T = [.int .i64 40, .int .i64 n1, .int .i64 n2, .int .i64 n3, .int .i64 n4, .int .i64 n5, .int .i64 n6, .int .i64 n7, .int .i64 n8, .int .i64 n9, .int .i64 n10, .int .i64 n11, .slice a12 l12 c12, .slice a13 l13 c13, .slice a14 l14 c14, .slice a15 l15 c15, .slice a16 l16 c16, .slice a17 l17 c17] := ⟨_, rfl⟩
  have hA : (#[.int .i64 40, .int .i64 n1, .int .i64 n2, .int .i64 n3, .int .i64 n4, .int .i64 n5, .int .i64 n6, .int .i64 n7, .int .i64 n8, .int .i64 n9, .int .i64 n10, .int .i64 n11, .slice a12 l12 c12, .slice a13 l13 c13, .slice a14 l14 c14, .slice a15 l15 c15, .slice a16 l16 c16, .slice a17 l17 c17] : Array Value) = T.toArray := by rw [hT]
  obtain ⟨Z, hZ⟩ : ∃ Z : List Value, Z = [.int .i64 0, .int .i64 0, .int .i64 0, .int .i64 0, .int .i64 0, .int .i64 0, .int .i64 0, .int .i64 0, .int .i64 0, .int .i64 0, .int .i64 0, .int .i64 0, .slice none 0 0, .slice none 0 0, .slice none 0 0, .slice none 0 0, .slice none 0 0, .slice none 0 0] := ⟨_, rfl⟩
  obtain ⟨wa, wb, wd, b1, b3, b4, H⟩ := laid3 w T Z
  have HH := Lib.hid H
  have hlen : T.length = 18 := by rw [hT]; rfl
  have HI : Hid ((Try.prog.info? 28).map (·.size) = some T.length) := by show _ = _; rw [hlen]; exact infoBlkS
  have HO : Hid (T.toArray.all (·.oneCell') = true) := by show _ = _; rw [hT]; simp; repeat' (first | rfl | constructor)
  have HZ : Hid ((Try.prog.info? 28).bind (·.zero) = some (.agg Z.toArray)) := by show _ = _; rw [hZ]; kernel_rfl
  have HZL : Hid (Z.length = T.length) := by show _ = _; rw [hZ, hT]; rfl
  have x0 : wd.cell? ⟨b1, 0, none⟩ = some (.int .i64 40) := by have := H.k1; rw [hT] at this; exact this.cell 0
  have HF : Hid (∀ u, Below wd.heap.size wd u → (∀ i : Nat, u.frozen? ⟨b4, i, none⟩ = false) ∧ u.cell? ⟨b4, 14, none⟩ = some (.slice a14 l14 c14)) := Lib.hid (fun u hu => by
    have h := H.k4.below_ hu
    exact ⟨fun i => h.frozen i, by rw [hT] at h; exact h.cell 14⟩)
  have HT := Lib.hid hT
  rw [hA] at hit
  have HIT := Lib.hid hit
  rw [hA]
  clear hit hT hA H hlen hZ
  go_enter Try.func40, Try.ntmps40
  go_upto_region 2 with (first
    | (refine Great.wpList_boxTo rfl 28 (.tmp 0) rfl (some 1) rfl b1 HH.out.e1 T.toArray rfl ?_; rw [HH.out.ea])
    | (refine wpList_allocToS rfl 28 rfl (some 3) rfl b3 HH.out.e3 (.agg Z.toArray) HZ.out ?_; rw [show (Value.agg Z.toArray).cells = Z.toArray from rfl, HH.out.eb])
    | (refine wpList_load_mid rfl 28 (.tmp 1) rfl b1 0 rfl T _ (blkR HH.out.kb) Try.underlying28 rfl HI.out ?_)
    | (refine wpList_allocToS rfl 28 rfl (some 4) rfl b4 HH.out.e4 (.agg Z.toArray) HZ.out ?_; rw [show (Value.agg Z.toArray).cells = Z.toArray from rfl])
    | (refine wpList_store_rowTo rfl 28 (.tmp 4) (.tmp 6) rfl rfl b4 T.toArray rfl rfl 28 _ (by rw [← HH.out.e4]; exact heap_alloc_new wb _) (by rw [HI.out]; simp) (by simp [HZL.out]) HO.out ?_; rw [← HH.out.e4, World.setRow_alloc_new, HH.out.e4, HH.out.ed]))
  go_upto_region 45 with (first
    | (refine wpList_load_mid rfl 28 (.tmp 1) rfl b1 0 rfl T _ (blkR HH.out.k1) Try.underlying28 rfl HI.out ?_)
    | (go_at_call 73
       refine (HIT.out _ HH.out.bel).mono ?_
       rintro e w2 ⟨rfl, hb2⟩
       obtain ⟨f4, g14⟩ := HF.out w2 hb2
       have HB2 := Lib.hid hb2
       clear hb2))
  obtain ⟨u, hu⟩ : ∃ u, u = (w2.setCell ⟨b4, 14, none⟩ (.slice none 0 0)) := ⟨_, rfl⟩
  rw [← hu]
  have hT2' : [.int .i64 40, .int .i64 n1, .int .i64 n2, .int .i64 n3, .int .i64 n4, .int .i64 n5, .int .i64 n6, .int .i64 n7, .int .i64 n8, .int .i64 n9, .int .i64 n10, .int .i64 n11, .slice a12 l12 c12, .slice a13 l13 c13, .slice none 0 0, .slice a15 l15 c15, .slice a16 l16 c16, .slice a17 l17 c17] = (T.set 14 (.slice none 0 0)) := by rw [HT.out]; try rfl
  obtain ⟨T2, hT2⟩ : ∃ T2 : List Value, T2 = (T.set 14 (.slice none 0 0)) := ⟨_, rfl⟩
  have hk4 : Blk u b4 28 T2 := by rw [hu, hT2]; exact ((HH.out.k4.below_ HB2.out).set_ 14 _)
  have hk3 : Blk u b3 28 Z := by rw [hu]; exact ((set_heap (by have := HH.out.n34; have := HH.out.n4; have := HB2.out.size; omega) (by have := HH.out.n34; omega)).trans (HH.out.k3.below_ HB2.out))
  have hb4 : w.heap.size ≤ b4 := by have := HH.out.n34; have := HH.out.n13; have := HH.out.e1; omega
  have hbu : Below w.heap.size w u := by rw [hu]; exact ((HH.out.bel.trans (HB2.out.mono HH.out.bel.size)).setCell hb4 _)
  rw [← hT2] at hT2'
  have HI2 : Hid ((Try.prog.info? 28).map (·.size) = some T2.length) := by show _ = _; rw [← hT2', HI.out, HT.out]; try rfl
  have HO2 : Hid (T2.toArray.all (·.oneCell') = true) := by show _ = _; rw [← hT2']; simp; repeat' (first | rfl | constructor)
  have HZ2 : Hid (Z.length = T2.length) := by show _ = _; rw [HZL.out, ← hT2', HT.out]; try rfl
  have HK4 := Lib.hid hk4; have HK3 := Lib.hid hk3; have HBU := Lib.hid hbu; have HT2 := Lib.hid hT2'
  have hb3 : w.heap.size ≤ b3 := by have := HH.out.n13; have := HH.out.e1; omega
  have HB3 := Lib.hid hb3
  clear hT2 hu hk4 hk3 hbu hT2' hb4 hb3 x0 f4 g14
  refine wp_region_still_tail 3 (by kernel_rfl) (by kernel_rfl) ?_
  simp only [List.take_succ_cons, List.take_zero, List.drop_succ_cons, List.drop_zero]
  still_step
  refine wpStill_step (fun K hK => ?_)
  refine still_loadAt (by rfl) 28 (.tmp 4) rfl b4 0 rfl T2 _ (blkR HK4.out) Try.underlying28 rfl HI2.out (hK _ ?_)
  clear hK K
  still_step
  refine wpStill_nil ?_
  change wpList _ _ _ _ _ u.drew
  refine wpList_store_rowTo rfl 28 (.tmp 3) (.tmp 159) rfl rfl b3 T2.toArray rfl rfl 28 Z.toArray HK3.out (by rw [HI2.out]; simp) (by simp [HZ2.out]) HO2.out ?_
  go_wp2_with fail
  have hfin : (u.drew.setRow b3 T2.toArray).heap[b3]? = some (.cells T2.toArray 28 (0, 0)) := setRow_heap u.drew _ _ _ _ _ HK3.out
  refine bodyPost_ret (results_tmp_cell rfl _ (u.drew.setRow b3 T2.toArray) b3 28 T2.toArray (0, 0) _ rfl hfin Try.underlying28 rfl (by rw [HI2.out]; simp)) rfl ⟨?_, ?_⟩
  · rw [HT2.out]; try rfl
  · exact below_setRow HBU.out.drew HB3.out _
set_option maxRecDepth 100000 in
set_option maxHeartbeats 8000000 in
theorem sp_other_50 (n1 n2 n3 n4 n5 n6 n7 n8 n9 n10 n11 : Int) (a12 a13 a14 a15 a16 a17 : Option Addr) (l12 l13 l14 l15 l16 l17 c12 c13 c14 c15 c16 c17 : Nat) (w : World) (ok : Bool) (hit : ∀ u, Below w.heap.size w u → Calls Try.prog 73 #[.agg #[.int .i64 50, .int .i64 n1, .int .i64 n2, .int .i64 n3, .int .i64 n4, .int .i64 n5, .int .i64 n6, .int .i64 n7, .int .i64 n8, .int .i64 n9, .int .i64 n10, .int .i64 n11, .slice a12 l12 c12, .slice a13 l13 c13, .slice a14 l14 c14, .slice a15 l15 c15, .slice a16 l16 c16, .slice a17 l17 c17]] u (SaysB ok u)) :
    Calls Try.prog 40 #[.agg #[.int .i64 50, .int .i64 n1, .int .i64 n2, .int .i64 n3, .int .i64 n4, .int .i64 n5, .int .i64 n6, .int .i64 n7, .int .i64 n8, .int .i64 n9, .int .i64 n10, .int .i64 n11, .slice a12 l12 c12, .slice a13 l13 c13, .slice a14 l14 c14, .slice a15 l15 c15, .slice a16 l16 c16, .slice a17 l17 c17]] w
      (SndR ok [.int .i64 50, .int .i64 n1, .int .i64 n2, .int .i64 n3, .int .i64 n4, .int .i64 n5, .int .i64 n6, .int .i64 n7, .int .i64 n8, .int .i64 n9, .int .i64 n10, .int .i64 n11, .slice a12 l12 c12, .slice a13 l13 c13, .slice none 0 0, .slice a15 l15 c15, .slice a16 l16 c16, .slice a17 l17 c17] w) := by
  obtain ⟨T, hT⟩ : ∃ T : List Value, T = [.int .i64 50, .int .i64 n1, .int .i64 n2, .int .i64 n3, .int .i64 n4, .int .i64 n5, .int .i64 n6, .int .i64 n7, .int .i64 n8, .int .i64 n9, .int .i64 n10, .int .i64 n11, .slice a12 l12 c12, .slice a13 l13 c13, .slice a14 l14 c14, .slice a15 l15 c15, .slice a16 l16 c16, .slice a17 l17 c17] := ⟨_, rfl⟩
  have hA : (#[.int .i64 50, .int .i64 n1, .int .i64 n2, .int .i64 n3, .int .i64 n4, .int .i64 n5, .int .i64 n6, .int .i64 n7, .int .i64 n8, .int .i64 n9, .int .i64 n10, .int .i64 n11, .slice a12 l12 c12, .slice a13 l13 c13, .slice a14 l14 c14, .slice a15 l15 c15, .slice a16 l16 c16, .slice a17 l17 c17] : Array Value) = T.toArray := by rw [hT]
  obtain ⟨Z, hZ⟩ : ∃ Z : List Value, Z = [.int .i64 0, .int .i64 0, .int .i64 0, .int .i64 0, .int .i64 0, .int .i64 0, .int .i64 0, .int .i64 0, .int .i64 0, .int .i64 0, .int .i64 0, .int .i64 0, .slice none 0 0, .slice none 0 0, .slice none 0 0, .slice none 0 0, .slice none 0 0, .slice none 0 0] := ⟨_, rfl⟩
  obtain ⟨wa, wb, wd, b1, b3, b4, H⟩ := laid3 w T Z
  have HH := Lib.hid H
  have hlen : T.length = 18 := by rw [hT]; rfl
  have HI : Hid ((Try.prog.info? 28).map (·.size) = some T.length) := by show _ = _; rw [hlen]; exact infoBlkS
  have HO : Hid (T.toArray.all (·.oneCell') = true) := by show _ = _; rw [hT]; simp; repeat' (first | rfl | constructor)
  have HZ : Hid ((Try.prog.info? 28).bind (·.zero) = some (.agg Z.toArray)) := by show _ = _; rw [hZ]; kernel_rfl
  have HZL : Hid (Z.length = T.length) := by show _ = _; rw [hZ, hT]; rfl
  have x0 : wd.cell? ⟨b1, 0, none⟩ = some (.int .i64 50) := by have := H.k1; rw [hT] at this; exact this.cell 0
  have HF : Hid (∀ u, Below wd.heap.size wd u → (∀ i : Nat, u.frozen? ⟨b4, i, none⟩ = false) ∧ u.cell? ⟨b4, 14, none⟩ = some (.slice a14 l14 c14)) := Lib.hid (fun u hu => by
    have h := H.k4.below_ hu
    exact ⟨fun i => h.frozen i, by rw [hT] at h; exact h.cell 14⟩)
  have HT := Lib.hid hT
  rw [hA] at hit
  have HIT := Lib.hid hit
  rw [hA]
  clear hit hT hA H hlen hZ
  go_enter Try.func40, Try.ntmps40
  go_upto_region 2 with (first
    | (refine Great.wpList_boxTo rfl 28 (.tmp 0) rfl (some 1) rfl b1 HH.out.e1 T.toArray rfl ?_; rw [HH.out.ea])
    | (refine wpList_allocToS rfl 28 rfl (some 3) rfl b3 HH.out.e3 (.agg Z.toArray) HZ.out ?_; rw [show (Value.agg Z.toArray).cells = Z.toArray from rfl, HH.out.eb])
    | (refine wpList_load_mid rfl 28 (.tmp 1) rfl b1 0 rfl T _ (blkR HH.out.kb) Try.underlying28 rfl HI.out ?_)
    | (refine wpList_allocToS rfl 28 rfl (some 4) rfl b4 HH.out.e4 (.agg Z.toArray) HZ.out ?_; rw [show (Value.agg Z.toArray).cells = Z.toArray from rfl])
    | (refine wpList_store_rowTo rfl 28 (.tmp 4) (.tmp 6) rfl rfl b4 T.toArray rfl rfl 28 _ (by rw [← HH.out.e4]; exact heap_alloc_new wb _) (by rw [HI.out]; simp) (by simp [HZL.out]) HO.out ?_; rw [← HH.out.e4, World.setRow_alloc_new, HH.out.e4, HH.out.ed]))
  go_upto_region 45 with (first
    | (refine wpList_load_mid rfl 28 (.tmp 1) rfl b1 0 rfl T _ (blkR HH.out.k1) Try.underlying28 rfl HI.out ?_)
    | (go_at_call 73
       refine (HIT.out _ HH.out.bel).mono ?_
       rintro e w2 ⟨rfl, hb2⟩
       obtain ⟨f4, g14⟩ := HF.out w2 hb2
       have HB2 := Lib.hid hb2
       clear hb2))
  obtain ⟨u, hu⟩ : ∃ u, u = (w2.setCell ⟨b4, 14, none⟩ (.slice none 0 0)) := ⟨_, rfl⟩
  rw [← hu]
  have hT2' : [.int .i64 50, .int .i64 n1, .int .i64 n2, .int .i64 n3, .int .i64 n4, .int .i64 n5, .int .i64 n6, .int .i64 n7, .int .i64 n8, .int .i64 n9, .int .i64 n10, .int .i64 n11, .slice a12 l12 c12, .slice a13 l13 c13, .slice none 0 0, .slice a15 l15 c15, .slice a16 l16 c16, .slice a17 l17 c17] = (T.set 14 (.slice none 0 0)) := by rw [HT.out]; try rfl
  obtain ⟨T2, hT2⟩ : ∃ T2 : List Value, T2 = (T.set 14 (.slice none 0 0)) := ⟨_, rfl⟩
  have hk4 : Blk u b4 28 T2 := by rw [hu, hT2]; exact ((HH.out.k4.below_ HB2.out).set_ 14 _)
  have hk3 : Blk u b3 28 Z := by rw [hu]; exact ((set_heap (by have := HH.out.n34; have := HH.out.n4; have := HB2.out.size; omega) (by have := HH.out.n34; omega)).trans (HH.out.k3.below_ HB2.out))
  have hb4 : w.heap.size ≤ b4 := by have := HH.out.n34; have := HH.out.n13; have := HH.out.e1; omega
  have hbu : Below w.heap.size w u := by rw [hu]; exact ((HH.out.bel.trans (HB2.out.mono HH.out.bel.size)).setCell hb4 _)
  rw [← hT2] at hT2'
  have HI2 : Hid ((Try.prog.info? 28).map (·.size) = some T2.length) := by show _ = _; rw [← hT2', HI.out, HT.out]; try rfl
  have HO2 : Hid (T2.toArray.all (·.oneCell') = true) := by show _ = _; rw [← hT2']; simp; repeat' (first | rfl | constructor)
  have HZ2 : Hid (Z.length = T2.length) := by show _ = _; rw [HZL.out, ← hT2', HT.out]; try rfl
  have HK4 := Lib.hid hk4; have HK3 := Lib.hid hk3; have HBU := Lib.hid hbu; have HT2 := Lib.hid hT2'
  have hb3 : w.heap.size ≤ b3 := by have := HH.out.n13; have := HH.out.e1; omega
  have HB3 := Lib.hid hb3
  clear hT2 hu hk4 hk3 hbu hT2' hb4 hb3 x0 f4 g14
  refine wp_region_still_tail 3 (by kernel_rfl) (by kernel_rfl) ?_
  simp only [List.take_succ_cons, List.take_zero, List.drop_succ_cons, List.drop_zero]
  still_step
  refine wpStill_step (fun K hK => ?_)
  refine still_loadAt (by rfl) 28 (.tmp 4) rfl b4 0 rfl T2 _ (blkR HK4.out) Try.underlying28 rfl HI2.out (hK _ ?_)
  clear hK K
  still_step
  refine wpStill_nil ?_
  change wpList _ _ _ _ _ u.drew
  refine wpList_store_rowTo rfl 28 (.tmp 3) (.tmp 159) rfl rfl b3 T2.toArray rfl rfl 28 Z.toArray HK3.out (by rw [HI2.out]; simp) (by simp [HZ2.out]) HO2.out ?_
  go_wp2_with fail
  have hfin : (u.drew.setRow b3 T2.toArray).heap[b3]? = some (.cells T2.toArray 28 (0, 0)) := setRow_heap u.drew _ _ _ _ _ HK3.out
  refine bodyPost_ret (results_tmp_cell rfl _ (u.drew.setRow b3 T2.toArray) b3 28 T2.toArray (0, 0) _ rfl hfin Try.underlying28 rfl (by rw [HI2.out]; simp)) rfl ⟨?_, ?_⟩
  · rw [HT2.out]; try rfl
  · exact below_setRow HBU.out.drew HB3.out _
end Go.Proofs.Ytokidpajialgbaa
namespace Go.Proofs.Ytokidpajialgbaa
set_option linter.unusedSimpArgs false
set_option linter.unusedVariables false
open Go.RowKit
set_option maxRecDepth 100000 in
set_option maxHeartbeats 8000000 in
theorem sp_other_def (id : Int) (hid : ∀ k ∈ ([34, 37, 39, 42, 33, 48, 35, 36, 38, 40, 50, 43, 49, 51, 52, 53, 90] : List Int), id ≠ k) (n1 n2 n3 n4 n5 n6 n7 n8 n9 n10 n11 : Int) (a12 a13 a14 a15 a16 a17 : Option Addr) (l12 l13 l14 l15 l16 l17 c12 c13 c14 c15 c16 c17 : Nat) (w : World) :
    Calls Try.prog 40 #[.agg #[.int .i64 id, .int .i64 n1, .int .i64 n2, .int .i64 n3, .int .i64 n4, .int .i64 n5, .int .i64 n6, .int .i64 n7, .int .i64 n8, .int .i64 n9, .int .i64 n10, .int .i64 n11, .slice a12 l12 c12, .slice a13 l13 c13, .slice a14 l14 c14, .slice a15 l15 c15, .slice a16 l16 c16, .slice a17 l17 c17]] w
      (SndR (fitS 1048576 [(l12 : Int)]) [.int .i64 id, .int .i64 n1, .int .i64 n2, .int .i64 n3, .int .i64 n4, .int .i64 n5, .int .i64 n6, .int .i64 n7, .int .i64 n8, .int .i64 n9, .int .i64 n10, .int .i64 n11, .slice none 0 0, .slice a13 l13 c13, .slice a14 l14 c14, .slice a15 l15 c15, .slice a16 l16 c16, .slice a17 l17 c17] w) := by
  obtain ⟨T, hT⟩ : ∃ T : List Value, T = [.int .i64 id, .int .i64 n1, .int .i64 n2, .int .i64 n3, .int .i64 n4, .int .i64 n5, .int .i64 n6, .int .i64 n7, .int .i64 n8, .int .i64 n9, .int .i64 n10, .int .i64 n11, .slice a12 l12 c12, .slice a13 l13 c13, .slice a14 l14 c14, .slice a15 l15 c15, .slice a16 l16 c16, .slice a17 l17 c17] := ⟨_, rfl⟩
  have hA : (#[.int .i64 id, .int .i64 n1, .int .i64 n2, .int .i64 n3, .int .i64 n4, .int .i64 n5, .int .i64 n6, .int .i64 n7, .int .i64 n8, .int .i64 n9, .int .i64 n10, .int .i64 n11, .slice a12 l12 c12, .slice a13 l13 c13, .slice a14 l14 c14, .slice a15 l15 c15, .slice a16 l16 c16, .slice a17 l17 c17] : Array Value) = T.toArray := by rw [hT]
  obtain ⟨Z, hZ⟩ : ∃ Z : List Value, Z = [.int .i64 0, .int .i64 0, .int .i64 0, .int .i64 0, .int .i64 0, .int .i64 0, .int .i64 0, .int .i64 0, .int .i64 0, .int .i64 0, .int .i64 0, .int .i64 0, .slice none 0 0, .slice none 0 0, .slice none 0 0, .slice none 0 0, .slice none 0 0, .slice none 0 0] := ⟨_, rfl⟩
  obtain ⟨wa, wb, wd, b1, b3, b4, H⟩ := laid3 w T Z
  have HH := Lib.hid H
  have hlen : T.length = 18 := by rw [hT]; rfl
  have HI : Hid ((Try.prog.info? 28).map (·.size) = some T.length) := by show _ = _; rw [hlen]; exact infoBlkS
  have HO : Hid (T.toArray.all (·.oneCell') = true) := by show _ = _; rw [hT]; simp; repeat' (first | rfl | constructor)
  have HZ : Hid ((Try.prog.info? 28).bind (·.zero) = some (.agg Z.toArray)) := by show _ = _; rw [hZ]; kernel_rfl
  have HZL : Hid (Z.length = T.length) := by show _ = _; rw [hZ, hT]; rfl
  have x0 : wd.cell? ⟨b1, 0, none⟩ = some (.int .i64 id) := by have := H.k1; rw [hT] at this; exact this.cell 0
  have x12 : wd.cell? ⟨b1, 12, none⟩ = some (.slice a12 l12 c12) := by have := H.k1; rw [hT] at this; exact this.cell 12
  have e34 : (id == 34) = false := by simpa using hid 34 (by simp)
  have e37 : (id == 37) = false := by simpa using hid 37 (by simp)
  have e39 : (id == 39) = false := by simpa using hid 39 (by simp)
  have e42 : (id == 42) = false := by simpa using hid 42 (by simp)
  have e33 : (id == 33) = false := by simpa using hid 33 (by simp)
  have e48 : (id == 48) = false := by simpa using hid 48 (by simp)
  have e35 : (id == 35) = false := by simpa using hid 35 (by simp)
  have e36 : (id == 36) = false := by simpa using hid 36 (by simp)
  have e38 : (id == 38) = false := by simpa using hid 38 (by simp)
  have e40 : (id == 40) = false := by simpa using hid 40 (by simp)
  have e50 : (id == 50) = false := by simpa using hid 50 (by simp)
  have e43 : (id == 43) = false := by simpa using hid 43 (by simp)
  have e49 : (id == 49) = false := by simpa using hid 49 (by simp)
  have e51 : (id == 51) = false := by simpa using hid 51 (by simp)
  have e52 : (id == 52) = false := by simpa using hid 52 (by simp)
  have e53 : (id == 53) = false := by simpa using hid 53 (by simp)
  have e90 : (id == 90) = false := by simpa using hid 90 (by simp)
  clear hid
  have f4 : ∀ (o : Obj) (i : Nat), (wd.alloc o).frozen? ⟨b4, i, none⟩ = false := fun o i => (H.k4.alloc o).frozen i
  have g12 : ∀ o : Obj, (wd.alloc o).cell? ⟨b4, 12, none⟩ = some (.slice a12 l12 c12) := fun o => by have := H.k4; rw [hT] at this; exact (this.alloc o).cell 12
  have HT := Lib.hid hT
  rw [hA]
  clear hT hA H hlen hZ
  go_enter Try.func40, Try.ntmps40
  go_upto_region 2 with (first
    | (refine Great.wpList_boxTo rfl 28 (.tmp 0) rfl (some 1) rfl b1 HH.out.e1 T.toArray rfl ?_; rw [HH.out.ea])
    | (refine wpList_allocToS rfl 28 rfl (some 3) rfl b3 HH.out.e3 (.agg Z.toArray) HZ.out ?_; rw [show (Value.agg Z.toArray).cells = Z.toArray from rfl, HH.out.eb])
    | (refine wpList_load_mid rfl 28 (.tmp 1) rfl b1 0 rfl T _ (blkR HH.out.kb) Try.underlying28 rfl HI.out ?_)
    | (refine wpList_allocToS rfl 28 rfl (some 4) rfl b4 HH.out.e4 (.agg Z.toArray) HZ.out ?_; rw [show (Value.agg Z.toArray).cells = Z.toArray from rfl])
    | (refine wpList_store_rowTo rfl 28 (.tmp 4) (.tmp 6) rfl rfl b4 T.toArray rfl rfl 28 _ (by rw [← HH.out.e4]; exact heap_alloc_new wb _) (by rw [HI.out]; simp) (by simp [HZL.out]) HO.out ?_; rw [← HH.out.e4, World.setRow_alloc_new, HH.out.e4, HH.out.ed]))
  obtain ⟨q, hq⟩ : ∃ q, fitS 1048576 [(l12 : Int)] = q := ⟨_, rfl⟩
  have HQ := Lib.hid hq
  clear hq
  go_upto_region 45 with (first
    | (go_at_call 18; refine (fit_newB 1048576 [(l12 : Int)] _ _ rfl 1 rfl (by decide) HQ.out).mono ?_; rintro e w2 ⟨rfl, rfl⟩))
  obtain ⟨u, hu⟩ : ∃ u, u = ((wd.alloc (.cells #[.int .i64 (l12 : Int)] 3)).setCell ⟨b4, 12, none⟩ (.slice none 0 0)) := ⟨_, rfl⟩
  rw [← hu]
  have hT2' : [.int .i64 id, .int .i64 n1, .int .i64 n2, .int .i64 n3, .int .i64 n4, .int .i64 n5, .int .i64 n6, .int .i64 n7, .int .i64 n8, .int .i64 n9, .int .i64 n10, .int .i64 n11, .slice none 0 0, .slice a13 l13 c13, .slice a14 l14 c14, .slice a15 l15 c15, .slice a16 l16 c16, .slice a17 l17 c17] = (T.set 12 (.slice none 0 0)) := by rw [HT.out]; try rfl
  obtain ⟨T2, hT2⟩ : ∃ T2 : List Value, T2 = (T.set 12 (.slice none 0 0)) := ⟨_, rfl⟩
  have hk4 : Blk u b4 28 T2 := by rw [hu, hT2]; exact ((HH.out.k4.alloc _).set_ 12 _)
  have hk3 : Blk u b3 28 Z := by rw [hu]; exact ((set_heap (by have := HH.out.n34; have := HH.out.n4; simp; omega) (by have := HH.out.n34; omega)).trans (HH.out.k3.alloc _))
  have hb4 : w.heap.size ≤ b4 := by have := HH.out.n34; have := HH.out.n13; have := HH.out.e1; omega
  have hbu : Below w.heap.size w u := by rw [hu]; exact ((HH.out.bel.alloc HH.out.bel.size _).setCell hb4 _)
  rw [← hT2] at hT2'
  have HI2 : Hid ((Try.prog.info? 28).map (·.size) = some T2.length) := by show _ = _; rw [← hT2', HI.out, HT.out]; try rfl
  have HO2 : Hid (T2.toArray.all (·.oneCell') = true) := by show _ = _; rw [← hT2']; simp; repeat' (first | rfl | constructor)
  have HZ2 : Hid (Z.length = T2.length) := by show _ = _; rw [HZL.out, ← hT2', HT.out]; try rfl
  have HK4 := Lib.hid hk4; have HK3 := Lib.hid hk3; have HBU := Lib.hid hbu; have HT2 := Lib.hid hT2'
  have hb3 : w.heap.size ≤ b3 := by have := HH.out.n13; have := HH.out.e1; omega
  have HB3 := Lib.hid hb3
  clear hT2 hu hk4 hk3 hbu hT2' hb4 hb3 e34 e37 e39 e42 e33 e48 e35 e36 e38 e40 e50 e43 e49 e51 e52 e53 e90 x0 x12 f4 g12
  refine wp_region_still_tail 3 (by kernel_rfl) (by kernel_rfl) ?_
  simp only [List.take_succ_cons, List.take_zero, List.drop_succ_cons, List.drop_zero]
  still_step
  refine wpStill_step (fun K hK => ?_)
  refine still_loadAt (by rfl) 28 (.tmp 4) rfl b4 0 rfl T2 _ (blkR HK4.out) Try.underlying28 rfl HI2.out (hK _ ?_)
  clear hK K
  still_step
  refine wpStill_nil ?_
  change wpList _ _ _ _ _ u.drew
  refine wpList_store_rowTo rfl 28 (.tmp 3) (.tmp 159) rfl rfl b3 T2.toArray rfl rfl 28 Z.toArray HK3.out (by rw [HI2.out]; simp) (by simp [HZ2.out]) HO2.out ?_
  go_wp2_with fail
  have hfin : (u.drew.setRow b3 T2.toArray).heap[b3]? = some (.cells T2.toArray 28 (0, 0)) := setRow_heap u.drew _ _ _ _ _ HK3.out
  refine bodyPost_ret (results_tmp_cell rfl _ (u.drew.setRow b3 T2.toArray) b3 28 T2.toArray (0, 0) _ rfl hfin Try.underlying28 rfl (by rw [HI2.out]; simp)) rfl ⟨?_, ?_⟩
  · rw [HQ.out, HT2.out]; try rfl
  · exact below_setRow HBU.out.drew HB3.out _
end Go.Proofs.Ytokidpajialgbaa
