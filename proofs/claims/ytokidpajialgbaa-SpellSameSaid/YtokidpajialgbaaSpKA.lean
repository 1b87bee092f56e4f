/- squealref19.Same of blocks whose numbers differ. Written by gen_spka.py. -/
import Derived.Test.YtokidpajialgbaaSpJ
namespace Go.Proofs.Ytokidpajialgbaa
set_option linter.unusedSimpArgs false
set_option linter.unusedVariables false
open Go.RowKit Go.Sort
set_option maxRecDepth 100000 in
set_option maxHeartbeats 8000000 in
theorem refSame_no0 (cs1 cs2 : List Value) (a0 c : Int) (w : World) (h0 : cs1[0]? = some (.int .i64 a0)) (k0 : cs2[0]? = some (.int .i64 c)) (hne : a0 ≠ c) : Calls Try.prog 23 #[.agg cs1.toArray, .agg cs2.toArray] w (SaysB false w) := by
  obtain ⟨b, hb⟩ : ∃ b, b = w.heap.size := ⟨_, rfl⟩
  obtain ⟨wa, hwa⟩ : ∃ wa, wa = w.alloc (.cells cs1.toArray 28) := ⟨_, rfl⟩
  obtain ⟨bb, hbb⟩ : ∃ b, b = wa.heap.size := ⟨_, rfl⟩
  obtain ⟨wb, hwb⟩ : ∃ wb, wb = wa.alloc (.cells cs2.toArray 28) := ⟨_, rfl⟩
  have kab : Below w.heap.size w wa := by rw [hwa]; exact (Below.refl _ w).alloc (Nat.le_refl _) _
  have kbc : Below wa.heap.size wa wb := by rw [hwb]; exact (Below.refl _ wa).alloc (Nat.le_refl _) _
  have hA1 : Blk wb b 28 cs1 := by
    have : Blk wa b 28 cs1 := by rw [hwa, hb]; exact Blk.new w _ _
    exact this.below_ kbc
  have hA2 : Blk wb bb 28 cs2 := by rw [hwb, hbb]; exact Blk.new wa _ _
  have x0 : wb.cell? ⟨b, 0, none⟩ = some (.int .i64 a0) := (hA1.cell 0).trans h0
  have y0 : wb.cell? ⟨bb, 0, none⟩ = some (.int .i64 c) := (hA2.cell 0).trans k0
  have hn : (a0 == c) = false := by simpa using hne
  have HK := Lib.hid (kab.trans (kbc.mono kab.size))
  have HB := Lib.hid hb; have HBB := Lib.hid hbb; have HWA := Lib.hid hwa; have HWB := Lib.hid hwb
  clear hb hwa hbb hwb kab kbc hA1 hA2 h0 k0
  go_enter Try.func23, Try.ntmps23
  go_upto_region 0 with fail
  refine wp_region_list ?_
  refine Great.wpList_boxTo rfl 28 (.tmp 0) rfl (some 2) rfl b HB.out.symm cs1.toArray rfl ?_
  rw [← HWA.out]
  refine Great.wpList_boxTo rfl 28 (.tmp 1) rfl (some 3) rfl bb HBB.out.symm cs2.toArray rfl ?_
  rw [← HWB.out]
  go_upto_region 1 with fail
  simp only [List.append_eq, List.cons_append, List.nil_append]
  go_wp2_with fail
  go_ret
  exact ⟨rfl, HK.out⟩
set_option maxRecDepth 100000 in
set_option maxHeartbeats 8000000 in
theorem refSame_no1 (cs1 cs2 : List Value) (a0 a1 c : Int) (w : World) (h0 : cs1[0]? = some (.int .i64 a0)) (k0 : cs2[0]? = some (.int .i64 a0)) (h1 : cs1[1]? = some (.int .i64 a1)) (k1 : cs2[1]? = some (.int .i64 c)) (hne : a1 ≠ c) : Calls Try.prog 23 #[.agg cs1.toArray, .agg cs2.toArray] w (SaysB false w) := by
  obtain ⟨b, hb⟩ : ∃ b, b = w.heap.size := ⟨_, rfl⟩
  obtain ⟨wa, hwa⟩ : ∃ wa, wa = w.alloc (.cells cs1.toArray 28) := ⟨_, rfl⟩
  obtain ⟨bb, hbb⟩ : ∃ b, b = wa.heap.size := ⟨_, rfl⟩
  obtain ⟨wb, hwb⟩ : ∃ wb, wb = wa.alloc (.cells cs2.toArray 28) := ⟨_, rfl⟩
  have kab : Below w.heap.size w wa := by rw [hwa]; exact (Below.refl _ w).alloc (Nat.le_refl _) _
  have kbc : Below wa.heap.size wa wb := by rw [hwb]; exact (Below.refl _ wa).alloc (Nat.le_refl _) _
  have hA1 : Blk wb b 28 cs1 := by
    have : Blk wa b 28 cs1 := by rw [hwa, hb]; exact Blk.new w _ _
    exact this.below_ kbc
  have hA2 : Blk wb bb 28 cs2 := by rw [hwb, hbb]; exact Blk.new wa _ _
  have x0 : wb.cell? ⟨b, 0, none⟩ = some (.int .i64 a0) := (hA1.cell 0).trans h0
  have y0 : wb.cell? ⟨bb, 0, none⟩ = some (.int .i64 a0) := (hA2.cell 0).trans k0
  have x1 : wb.cell? ⟨b, 1, none⟩ = some (.int .i64 a1) := (hA1.cell 1).trans h1
  have y1 : wb.cell? ⟨bb, 1, none⟩ = some (.int .i64 c) := (hA2.cell 1).trans k1
  have hn : (a1 == c) = false := by simpa using hne
  have HK := Lib.hid (kab.trans (kbc.mono kab.size))
  have HB := Lib.hid hb; have HBB := Lib.hid hbb; have HWA := Lib.hid hwa; have HWB := Lib.hid hwb
  clear hb hwa hbb hwb kab kbc hA1 hA2 h0 k0 h1 k1
  go_enter Try.func23, Try.ntmps23
  go_upto_region 0 with fail
  refine wp_region_list ?_
  refine Great.wpList_boxTo rfl 28 (.tmp 0) rfl (some 2) rfl b HB.out.symm cs1.toArray rfl ?_
  rw [← HWA.out]
  refine Great.wpList_boxTo rfl 28 (.tmp 1) rfl (some 3) rfl bb HBB.out.symm cs2.toArray rfl ?_
  rw [← HWB.out]
  go_upto_region 1 with fail
  simp only [List.append_eq, List.cons_append, List.nil_append]
  go_wp2_with fail
  go_ret
  exact ⟨rfl, HK.out⟩
set_option maxRecDepth 100000 in
set_option maxHeartbeats 8000000 in
theorem refSame_no2 (cs1 cs2 : List Value) (a0 a1 a2 c : Int) (w : World) (h0 : cs1[0]? = some (.int .i64 a0)) (k0 : cs2[0]? = some (.int .i64 a0)) (h1 : cs1[1]? = some (.int .i64 a1)) (k1 : cs2[1]? = some (.int .i64 a1)) (h2 : cs1[2]? = some (.int .i64 a2)) (k2 : cs2[2]? = some (.int .i64 c)) (hne : a2 ≠ c) : Calls Try.prog 23 #[.agg cs1.toArray, .agg cs2.toArray] w (SaysB false w) := by
  obtain ⟨b, hb⟩ : ∃ b, b = w.heap.size := ⟨_, rfl⟩
  obtain ⟨wa, hwa⟩ : ∃ wa, wa = w.alloc (.cells cs1.toArray 28) := ⟨_, rfl⟩
  obtain ⟨bb, hbb⟩ : ∃ b, b = wa.heap.size := ⟨_, rfl⟩
  obtain ⟨wb, hwb⟩ : ∃ wb, wb = wa.alloc (.cells cs2.toArray 28) := ⟨_, rfl⟩
  have kab : Below w.heap.size w wa := by rw [hwa]; exact (Below.refl _ w).alloc (Nat.le_refl _) _
  have kbc : Below wa.heap.size wa wb := by rw [hwb]; exact (Below.refl _ wa).alloc (Nat.le_refl _) _
  have hA1 : Blk wb b 28 cs1 := by
    have : Blk wa b 28 cs1 := by rw [hwa, hb]; exact Blk.new w _ _
    exact this.below_ kbc
  have hA2 : Blk wb bb 28 cs2 := by rw [hwb, hbb]; exact Blk.new wa _ _
  have x0 : wb.cell? ⟨b, 0, none⟩ = some (.int .i64 a0) := (hA1.cell 0).trans h0
  have y0 : wb.cell? ⟨bb, 0, none⟩ = some (.int .i64 a0) := (hA2.cell 0).trans k0
  have x1 : wb.cell? ⟨b, 1, none⟩ = some (.int .i64 a1) := (hA1.cell 1).trans h1
  have y1 : wb.cell? ⟨bb, 1, none⟩ = some (.int .i64 a1) := (hA2.cell 1).trans k1
  have x2 : wb.cell? ⟨b, 2, none⟩ = some (.int .i64 a2) := (hA1.cell 2).trans h2
  have y2 : wb.cell? ⟨bb, 2, none⟩ = some (.int .i64 c) := (hA2.cell 2).trans k2
  have hn : (a2 == c) = false := by simpa using hne
  have HK := Lib.hid (kab.trans (kbc.mono kab.size))
  have HB := Lib.hid hb; have HBB := Lib.hid hbb; have HWA := Lib.hid hwa; have HWB := Lib.hid hwb
  clear hb hwa hbb hwb kab kbc hA1 hA2 h0 k0 h1 k1 h2 k2
  go_enter Try.func23, Try.ntmps23
  go_upto_region 0 with fail
  refine wp_region_list ?_
  refine Great.wpList_boxTo rfl 28 (.tmp 0) rfl (some 2) rfl b HB.out.symm cs1.toArray rfl ?_
  rw [← HWA.out]
  refine Great.wpList_boxTo rfl 28 (.tmp 1) rfl (some 3) rfl bb HBB.out.symm cs2.toArray rfl ?_
  rw [← HWB.out]
  go_upto_region 1 with fail
  simp only [List.append_eq, List.cons_append, List.nil_append]
  go_wp2_with fail
  go_ret
  exact ⟨rfl, HK.out⟩
set_option maxRecDepth 100000 in
set_option maxHeartbeats 8000000 in
theorem refSame_no3 (cs1 cs2 : List Value) (a0 a1 a2 a3 c : Int) (w : World) (h0 : cs1[0]? = some (.int .i64 a0)) (k0 : cs2[0]? = some (.int .i64 a0)) (h1 : cs1[1]? = some (.int .i64 a1)) (k1 : cs2[1]? = some (.int .i64 a1)) (h2 : cs1[2]? = some (.int .i64 a2)) (k2 : cs2[2]? = some (.int .i64 a2)) (h3 : cs1[3]? = some (.int .i64 a3)) (k3 : cs2[3]? = some (.int .i64 c)) (hne : a3 ≠ c) : Calls Try.prog 23 #[.agg cs1.toArray, .agg cs2.toArray] w (SaysB false w) := by
  obtain ⟨b, hb⟩ : ∃ b, b = w.heap.size := ⟨_, rfl⟩
  obtain ⟨wa, hwa⟩ : ∃ wa, wa = w.alloc (.cells cs1.toArray 28) := ⟨_, rfl⟩
  obtain ⟨bb, hbb⟩ : ∃ b, b = wa.heap.size := ⟨_, rfl⟩
  obtain ⟨wb, hwb⟩ : ∃ wb, wb = wa.alloc (.cells cs2.toArray 28) := ⟨_, rfl⟩
  have kab : Below w.heap.size w wa := by rw [hwa]; exact (Below.refl _ w).alloc (Nat.le_refl _) _
  have kbc : Below wa.heap.size wa wb := by rw [hwb]; exact (Below.refl _ wa).alloc (Nat.le_refl _) _
  have hA1 : Blk wb b 28 cs1 := by
    have : Blk wa b 28 cs1 := by rw [hwa, hb]; exact Blk.new w _ _
    exact this.below_ kbc
  have hA2 : Blk wb bb 28 cs2 := by rw [hwb, hbb]; exact Blk.new wa _ _
  have x0 : wb.cell? ⟨b, 0, none⟩ = some (.int .i64 a0) := (hA1.cell 0).trans h0
  have y0 : wb.cell? ⟨bb, 0, none⟩ = some (.int .i64 a0) := (hA2.cell 0).trans k0
  have x1 : wb.cell? ⟨b, 1, none⟩ = some (.int .i64 a1) := (hA1.cell 1).trans h1
  have y1 : wb.cell? ⟨bb, 1, none⟩ = some (.int .i64 a1) := (hA2.cell 1).trans k1
  have x2 : wb.cell? ⟨b, 2, none⟩ = some (.int .i64 a2) := (hA1.cell 2).trans h2
  have y2 : wb.cell? ⟨bb, 2, none⟩ = some (.int .i64 a2) := (hA2.cell 2).trans k2
  have x3 : wb.cell? ⟨b, 3, none⟩ = some (.int .i64 a3) := (hA1.cell 3).trans h3
  have y3 : wb.cell? ⟨bb, 3, none⟩ = some (.int .i64 c) := (hA2.cell 3).trans k3
  have hn : (a3 == c) = false := by simpa using hne
  have HK := Lib.hid (kab.trans (kbc.mono kab.size))
  have HB := Lib.hid hb; have HBB := Lib.hid hbb; have HWA := Lib.hid hwa; have HWB := Lib.hid hwb
  clear hb hwa hbb hwb kab kbc hA1 hA2 h0 k0 h1 k1 h2 k2 h3 k3
  go_enter Try.func23, Try.ntmps23
  go_upto_region 0 with fail
  refine wp_region_list ?_
  refine Great.wpList_boxTo rfl 28 (.tmp 0) rfl (some 2) rfl b HB.out.symm cs1.toArray rfl ?_
  rw [← HWA.out]
  refine Great.wpList_boxTo rfl 28 (.tmp 1) rfl (some 3) rfl bb HBB.out.symm cs2.toArray rfl ?_
  rw [← HWB.out]
  go_upto_region 1 with fail
  simp only [List.append_eq, List.cons_append, List.nil_append]
  go_wp2_with fail
  go_ret
  exact ⟨rfl, HK.out⟩
set_option maxRecDepth 100000 in
set_option maxHeartbeats 8000000 in
theorem refSame_no4 (cs1 cs2 : List Value) (a0 a1 a2 a3 a4 c : Int) (w : World) (h0 : cs1[0]? = some (.int .i64 a0)) (k0 : cs2[0]? = some (.int .i64 a0)) (h1 : cs1[1]? = some (.int .i64 a1)) (k1 : cs2[1]? = some (.int .i64 a1)) (h2 : cs1[2]? = some (.int .i64 a2)) (k2 : cs2[2]? = some (.int .i64 a2)) (h3 : cs1[3]? = some (.int .i64 a3)) (k3 : cs2[3]? = some (.int .i64 a3)) (h4 : cs1[4]? = some (.int .i64 a4)) (k4 : cs2[4]? = some (.int .i64 c)) (hne : a4 ≠ c) : Calls Try.prog 23 #[.agg cs1.toArray, .agg cs2.toArray] w (SaysB false w) := by
  obtain ⟨b, hb⟩ : ∃ b, b = w.heap.size := ⟨_, rfl⟩
  obtain ⟨wa, hwa⟩ : ∃ wa, wa = w.alloc (.cells cs1.toArray 28) := ⟨_, rfl⟩
  obtain ⟨bb, hbb⟩ : ∃ b, b = wa.heap.size := ⟨_, rfl⟩
  obtain ⟨wb, hwb⟩ : ∃ wb, wb = wa.alloc (.cells cs2.toArray 28) := ⟨_, rfl⟩
  have kab : Below w.heap.size w wa := by rw [hwa]; exact (Below.refl _ w).alloc (Nat.le_refl _) _
  have kbc : Below wa.heap.size wa wb := by rw [hwb]; exact (Below.refl _ wa).alloc (Nat.le_refl _) _
  have hA1 : Blk wb b 28 cs1 := by
    have : Blk wa b 28 cs1 := by rw [hwa, hb]; exact Blk.new w _ _
    exact this.below_ kbc
  have hA2 : Blk wb bb 28 cs2 := by rw [hwb, hbb]; exact Blk.new wa _ _
  have x0 : wb.cell? ⟨b, 0, none⟩ = some (.int .i64 a0) := (hA1.cell 0).trans h0
  have y0 : wb.cell? ⟨bb, 0, none⟩ = some (.int .i64 a0) := (hA2.cell 0).trans k0
  have x1 : wb.cell? ⟨b, 1, none⟩ = some (.int .i64 a1) := (hA1.cell 1).trans h1
  have y1 : wb.cell? ⟨bb, 1, none⟩ = some (.int .i64 a1) := (hA2.cell 1).trans k1
  have x2 : wb.cell? ⟨b, 2, none⟩ = some (.int .i64 a2) := (hA1.cell 2).trans h2
  have y2 : wb.cell? ⟨bb, 2, none⟩ = some (.int .i64 a2) := (hA2.cell 2).trans k2
  have x3 : wb.cell? ⟨b, 3, none⟩ = some (.int .i64 a3) := (hA1.cell 3).trans h3
  have y3 : wb.cell? ⟨bb, 3, none⟩ = some (.int .i64 a3) := (hA2.cell 3).trans k3
  have x4 : wb.cell? ⟨b, 4, none⟩ = some (.int .i64 a4) := (hA1.cell 4).trans h4
  have y4 : wb.cell? ⟨bb, 4, none⟩ = some (.int .i64 c) := (hA2.cell 4).trans k4
  have hn : (a4 == c) = false := by simpa using hne
  have HK := Lib.hid (kab.trans (kbc.mono kab.size))
  have HB := Lib.hid hb; have HBB := Lib.hid hbb; have HWA := Lib.hid hwa; have HWB := Lib.hid hwb
  clear hb hwa hbb hwb kab kbc hA1 hA2 h0 k0 h1 k1 h2 k2 h3 k3 h4 k4
  go_enter Try.func23, Try.ntmps23
  go_upto_region 0 with fail
  refine wp_region_list ?_
  refine Great.wpList_boxTo rfl 28 (.tmp 0) rfl (some 2) rfl b HB.out.symm cs1.toArray rfl ?_
  rw [← HWA.out]
  refine Great.wpList_boxTo rfl 28 (.tmp 1) rfl (some 3) rfl bb HBB.out.symm cs2.toArray rfl ?_
  rw [← HWB.out]
  go_upto_region 1 with fail
  simp only [List.append_eq, List.cons_append, List.nil_append]
  go_wp2_with fail
  go_ret
  exact ⟨rfl, HK.out⟩
set_option maxRecDepth 100000 in
set_option maxHeartbeats 8000000 in
theorem refSame_no5 (cs1 cs2 : List Value) (a0 a1 a2 a3 a4 a5 c : Int) (w : World) (h0 : cs1[0]? = some (.int .i64 a0)) (k0 : cs2[0]? = some (.int .i64 a0)) (h1 : cs1[1]? = some (.int .i64 a1)) (k1 : cs2[1]? = some (.int .i64 a1)) (h2 : cs1[2]? = some (.int .i64 a2)) (k2 : cs2[2]? = some (.int .i64 a2)) (h3 : cs1[3]? = some (.int .i64 a3)) (k3 : cs2[3]? = some (.int .i64 a3)) (h4 : cs1[4]? = some (.int .i64 a4)) (k4 : cs2[4]? = some (.int .i64 a4)) (h5 : cs1[5]? = some (.int .i64 a5)) (k5 : cs2[5]? = some (.int .i64 c)) (hne : a5 ≠ c) : Calls Try.prog 23 #[.agg cs1.toArray, .agg cs2.toArray] w (SaysB false w) := by
  obtain ⟨b, hb⟩ : ∃ b, b = w.heap.size := ⟨_, rfl⟩
  obtain ⟨wa, hwa⟩ : ∃ wa, wa = w.alloc (.cells cs1.toArray 28) := ⟨_, rfl⟩
  obtain ⟨bb, hbb⟩ : ∃ b, b = wa.heap.size := ⟨_, rfl⟩
  obtain ⟨wb, hwb⟩ : ∃ wb, wb = wa.alloc (.cells cs2.toArray 28) := ⟨_, rfl⟩
  have kab : Below w.heap.size w wa := by rw [hwa]; exact (Below.refl _ w).alloc (Nat.le_refl _) _
  have kbc : Below wa.heap.size wa wb := by rw [hwb]; exact (Below.refl _ wa).alloc (Nat.le_refl _) _
  have hA1 : Blk wb b 28 cs1 := by
    have : Blk wa b 28 cs1 := by rw [hwa, hb]; exact Blk.new w _ _
    exact this.below_ kbc
  have hA2 : Blk wb bb 28 cs2 := by rw [hwb, hbb]; exact Blk.new wa _ _
  have x0 : wb.cell? ⟨b, 0, none⟩ = some (.int .i64 a0) := (hA1.cell 0).trans h0
  have y0 : wb.cell? ⟨bb, 0, none⟩ = some (.int .i64 a0) := (hA2.cell 0).trans k0
  have x1 : wb.cell? ⟨b, 1, none⟩ = some (.int .i64 a1) := (hA1.cell 1).trans h1
  have y1 : wb.cell? ⟨bb, 1, none⟩ = some (.int .i64 a1) := (hA2.cell 1).trans k1
  have x2 : wb.cell? ⟨b, 2, none⟩ = some (.int .i64 a2) := (hA1.cell 2).trans h2
  have y2 : wb.cell? ⟨bb, 2, none⟩ = some (.int .i64 a2) := (hA2.cell 2).trans k2
  have x3 : wb.cell? ⟨b, 3, none⟩ = some (.int .i64 a3) := (hA1.cell 3).trans h3
  have y3 : wb.cell? ⟨bb, 3, none⟩ = some (.int .i64 a3) := (hA2.cell 3).trans k3
  have x4 : wb.cell? ⟨b, 4, none⟩ = some (.int .i64 a4) := (hA1.cell 4).trans h4
  have y4 : wb.cell? ⟨bb, 4, none⟩ = some (.int .i64 a4) := (hA2.cell 4).trans k4
  have x5 : wb.cell? ⟨b, 5, none⟩ = some (.int .i64 a5) := (hA1.cell 5).trans h5
  have y5 : wb.cell? ⟨bb, 5, none⟩ = some (.int .i64 c) := (hA2.cell 5).trans k5
  have hn : (a5 == c) = false := by simpa using hne
  have HK := Lib.hid (kab.trans (kbc.mono kab.size))
  have HB := Lib.hid hb; have HBB := Lib.hid hbb; have HWA := Lib.hid hwa; have HWB := Lib.hid hwb
  clear hb hwa hbb hwb kab kbc hA1 hA2 h0 k0 h1 k1 h2 k2 h3 k3 h4 k4 h5 k5
  go_enter Try.func23, Try.ntmps23
  go_upto_region 0 with fail
  refine wp_region_list ?_
  refine Great.wpList_boxTo rfl 28 (.tmp 0) rfl (some 2) rfl b HB.out.symm cs1.toArray rfl ?_
  rw [← HWA.out]
  refine Great.wpList_boxTo rfl 28 (.tmp 1) rfl (some 3) rfl bb HBB.out.symm cs2.toArray rfl ?_
  rw [← HWB.out]
  go_upto_region 1 with fail
  simp only [List.append_eq, List.cons_append, List.nil_append]
  go_wp2_with fail
  go_ret
  exact ⟨rfl, HK.out⟩
set_option maxRecDepth 100000 in
set_option maxHeartbeats 8000000 in
theorem refSame_no6 (cs1 cs2 : List Value) (a0 a1 a2 a3 a4 a5 a6 c : Int) (w : World) (h0 : cs1[0]? = some (.int .i64 a0)) (k0 : cs2[0]? = some (.int .i64 a0)) (h1 : cs1[1]? = some (.int .i64 a1)) (k1 : cs2[1]? = some (.int .i64 a1)) (h2 : cs1[2]? = some (.int .i64 a2)) (k2 : cs2[2]? = some (.int .i64 a2)) (h3 : cs1[3]? = some (.int .i64 a3)) (k3 : cs2[3]? = some (.int .i64 a3)) (h4 : cs1[4]? = some (.int .i64 a4)) (k4 : cs2[4]? = some (.int .i64 a4)) (h5 : cs1[5]? = some (.int .i64 a5)) (k5 : cs2[5]? = some (.int .i64 a5)) (h6 : cs1[6]? = some (.int .i64 a6)) (k6 : cs2[6]? = some (.int .i64 c)) (hne : a6 ≠ c) : Calls Try.prog 23 #[.agg cs1.toArray, .agg cs2.toArray] w (SaysB false w) := by
  obtain ⟨b, hb⟩ : ∃ b, b = w.heap.size := ⟨_, rfl⟩
  obtain ⟨wa, hwa⟩ : ∃ wa, wa = w.alloc (.cells cs1.toArray 28) := ⟨_, rfl⟩
  obtain ⟨bb, hbb⟩ : ∃ b, b = wa.heap.size := ⟨_, rfl⟩
  obtain ⟨wb, hwb⟩ : ∃ wb, wb = wa.alloc (.cells cs2.toArray 28) := ⟨_, rfl⟩
  have kab : Below w.heap.size w wa := by rw [hwa]; exact (Below.refl _ w).alloc (Nat.le_refl _) _
  have kbc : Below wa.heap.size wa wb := by rw [hwb]; exact (Below.refl _ wa).alloc (Nat.le_refl _) _
  have hA1 : Blk wb b 28 cs1 := by
    have : Blk wa b 28 cs1 := by rw [hwa, hb]; exact Blk.new w _ _
    exact this.below_ kbc
  have hA2 : Blk wb bb 28 cs2 := by rw [hwb, hbb]; exact Blk.new wa _ _
  have x0 : wb.cell? ⟨b, 0, none⟩ = some (.int .i64 a0) := (hA1.cell 0).trans h0
  have y0 : wb.cell? ⟨bb, 0, none⟩ = some (.int .i64 a0) := (hA2.cell 0).trans k0
  have x1 : wb.cell? ⟨b, 1, none⟩ = some (.int .i64 a1) := (hA1.cell 1).trans h1
  have y1 : wb.cell? ⟨bb, 1, none⟩ = some (.int .i64 a1) := (hA2.cell 1).trans k1
  have x2 : wb.cell? ⟨b, 2, none⟩ = some (.int .i64 a2) := (hA1.cell 2).trans h2
  have y2 : wb.cell? ⟨bb, 2, none⟩ = some (.int .i64 a2) := (hA2.cell 2).trans k2
  have x3 : wb.cell? ⟨b, 3, none⟩ = some (.int .i64 a3) := (hA1.cell 3).trans h3
  have y3 : wb.cell? ⟨bb, 3, none⟩ = some (.int .i64 a3) := (hA2.cell 3).trans k3
  have x4 : wb.cell? ⟨b, 4, none⟩ = some (.int .i64 a4) := (hA1.cell 4).trans h4
  have y4 : wb.cell? ⟨bb, 4, none⟩ = some (.int .i64 a4) := (hA2.cell 4).trans k4
  have x5 : wb.cell? ⟨b, 5, none⟩ = some (.int .i64 a5) := (hA1.cell 5).trans h5
  have y5 : wb.cell? ⟨bb, 5, none⟩ = some (.int .i64 a5) := (hA2.cell 5).trans k5
  have x6 : wb.cell? ⟨b, 6, none⟩ = some (.int .i64 a6) := (hA1.cell 6).trans h6
  have y6 : wb.cell? ⟨bb, 6, none⟩ = some (.int .i64 c) := (hA2.cell 6).trans k6
  have hn : (a6 == c) = false := by simpa using hne
  have HK := Lib.hid (kab.trans (kbc.mono kab.size))
  have HB := Lib.hid hb; have HBB := Lib.hid hbb; have HWA := Lib.hid hwa; have HWB := Lib.hid hwb
  clear hb hwa hbb hwb kab kbc hA1 hA2 h0 k0 h1 k1 h2 k2 h3 k3 h4 k4 h5 k5 h6 k6
  go_enter Try.func23, Try.ntmps23
  go_upto_region 0 with fail
  refine wp_region_list ?_
  refine Great.wpList_boxTo rfl 28 (.tmp 0) rfl (some 2) rfl b HB.out.symm cs1.toArray rfl ?_
  rw [← HWA.out]
  refine Great.wpList_boxTo rfl 28 (.tmp 1) rfl (some 3) rfl bb HBB.out.symm cs2.toArray rfl ?_
  rw [← HWB.out]
  go_upto_region 1 with fail
  simp only [List.append_eq, List.cons_append, List.nil_append]
  go_wp2_with fail
  go_ret
  exact ⟨rfl, HK.out⟩
set_option maxRecDepth 100000 in
set_option maxHeartbeats 8000000 in
theorem refSame_no7 (cs1 cs2 : List Value) (a0 a1 a2 a3 a4 a5 a6 a7 c : Int) (w : World) (h0 : cs1[0]? = some (.int .i64 a0)) (k0 : cs2[0]? = some (.int .i64 a0)) (h1 : cs1[1]? = some (.int .i64 a1)) (k1 : cs2[1]? = some (.int .i64 a1)) (h2 : cs1[2]? = some (.int .i64 a2)) (k2 : cs2[2]? = some (.int .i64 a2)) (h3 : cs1[3]? = some (.int .i64 a3)) (k3 : cs2[3]? = some (.int .i64 a3)) (h4 : cs1[4]? = some (.int .i64 a4)) (k4 : cs2[4]? = some (.int .i64 a4)) (h5 : cs1[5]? = some (.int .i64 a5)) (k5 : cs2[5]? = some (.int .i64 a5)) (h6 : cs1[6]? = some (.int .i64 a6)) (k6 : cs2[6]? = some (.int .i64 a6)) (h7 : cs1[7]? = some (.int .i64 a7)) (k7 : cs2[7]? = some (.int .i64 c)) (hne : a7 ≠ c) : Calls Try.prog 23 #[.agg cs1.toArray, .agg cs2.toArray] w (SaysB false w) := by
  obtain ⟨b, hb⟩ : ∃ b, b = w.heap.size := ⟨_, rfl⟩
  obtain ⟨wa, hwa⟩ : ∃ wa, wa = w.alloc (.cells cs1.toArray 28) := ⟨_, rfl⟩
  obtain ⟨bb, hbb⟩ : ∃ b, b = wa.heap.size := ⟨_, rfl⟩
  obtain ⟨wb, hwb⟩ : ∃ wb, wb = wa.alloc (.cells cs2.toArray 28) := ⟨_, rfl⟩
  have kab : Below w.heap.size w wa := by rw [hwa]; exact (Below.refl _ w).alloc (Nat.le_refl _) _
  have kbc : Below wa.heap.size wa wb := by rw [hwb]; exact (Below.refl _ wa).alloc (Nat.le_refl _) _
  have hA1 : Blk wb b 28 cs1 := by
    have : Blk wa b 28 cs1 := by rw [hwa, hb]; exact Blk.new w _ _
    exact this.below_ kbc
  have hA2 : Blk wb bb 28 cs2 := by rw [hwb, hbb]; exact Blk.new wa _ _
  have x0 : wb.cell? ⟨b, 0, none⟩ = some (.int .i64 a0) := (hA1.cell 0).trans h0
  have y0 : wb.cell? ⟨bb, 0, none⟩ = some (.int .i64 a0) := (hA2.cell 0).trans k0
  have x1 : wb.cell? ⟨b, 1, none⟩ = some (.int .i64 a1) := (hA1.cell 1).trans h1
  have y1 : wb.cell? ⟨bb, 1, none⟩ = some (.int .i64 a1) := (hA2.cell 1).trans k1
  have x2 : wb.cell? ⟨b, 2, none⟩ = some (.int .i64 a2) := (hA1.cell 2).trans h2
  have y2 : wb.cell? ⟨bb, 2, none⟩ = some (.int .i64 a2) := (hA2.cell 2).trans k2
  have x3 : wb.cell? ⟨b, 3, none⟩ = some (.int .i64 a3) := (hA1.cell 3).trans h3
  have y3 : wb.cell? ⟨bb, 3, none⟩ = some (.int .i64 a3) := (hA2.cell 3).trans k3
  have x4 : wb.cell? ⟨b, 4, none⟩ = some (.int .i64 a4) := (hA1.cell 4).trans h4
  have y4 : wb.cell? ⟨bb, 4, none⟩ = some (.int .i64 a4) := (hA2.cell 4).trans k4
  have x5 : wb.cell? ⟨b, 5, none⟩ = some (.int .i64 a5) := (hA1.cell 5).trans h5
  have y5 : wb.cell? ⟨bb, 5, none⟩ = some (.int .i64 a5) := (hA2.cell 5).trans k5
  have x6 : wb.cell? ⟨b, 6, none⟩ = some (.int .i64 a6) := (hA1.cell 6).trans h6
  have y6 : wb.cell? ⟨bb, 6, none⟩ = some (.int .i64 a6) := (hA2.cell 6).trans k6
  have x7 : wb.cell? ⟨b, 7, none⟩ = some (.int .i64 a7) := (hA1.cell 7).trans h7
  have y7 : wb.cell? ⟨bb, 7, none⟩ = some (.int .i64 c) := (hA2.cell 7).trans k7
  have hn : (a7 == c) = false := by simpa using hne
  have HK := Lib.hid (kab.trans (kbc.mono kab.size))
  have HB := Lib.hid hb; have HBB := Lib.hid hbb; have HWA := Lib.hid hwa; have HWB := Lib.hid hwb
  clear hb hwa hbb hwb kab kbc hA1 hA2 h0 k0 h1 k1 h2 k2 h3 k3 h4 k4 h5 k5 h6 k6 h7 k7
  go_enter Try.func23, Try.ntmps23
  go_upto_region 0 with fail
  refine wp_region_list ?_
  refine Great.wpList_boxTo rfl 28 (.tmp 0) rfl (some 2) rfl b HB.out.symm cs1.toArray rfl ?_
  rw [← HWA.out]
  refine Great.wpList_boxTo rfl 28 (.tmp 1) rfl (some 3) rfl bb HBB.out.symm cs2.toArray rfl ?_
  rw [← HWB.out]
  go_upto_region 1 with fail
  simp only [List.append_eq, List.cons_append, List.nil_append]
  go_wp2_with fail
  go_ret
  exact ⟨rfl, HK.out⟩
set_option maxRecDepth 100000 in
set_option maxHeartbeats 8000000 in
theorem refSame_no8 (cs1 cs2 : List Value) (a0 a1 a2 a3 a4 a5 a6 a7 a8 c : Int) (w : World) (h0 : cs1[0]? = some (.int .i64 a0)) (k0 : cs2[0]? = some (.int .i64 a0)) (h1 : cs1[1]? = some (.int .i64 a1)) (k1 : cs2[1]? = some (.int .i64 a1)) (h2 : cs1[2]? = some (.int .i64 a2)) (k2 : cs2[2]? = some (.int .i64 a2)) (h3 : cs1[3]? = some (.int .i64 a3)) (k3 : cs2[3]? = some (.int .i64 a3)) (h4 : cs1[4]? = some (.int .i64 a4)) (k4 : cs2[4]? = some (.int .i64 a4)) (h5 : cs1[5]? = some (.int .i64 a5)) (k5 : cs2[5]? = some (.int .i64 a5)) (h6 : cs1[6]? = some (.int .i64 a6)) (k6 : cs2[6]? = some (.int .i64 a6)) (h7 : cs1[7]? = some (.int .i64 a7)) (k7 : cs2[7]? = some (.int .i64 a7)) (h8 : cs1[8]? = some (.int .i64 a8)) (k8 : cs2[8]? = some (.int .i64 c)) (hne : a8 ≠ c) : Calls Try.prog 23 #[.agg cs1.toArray, .agg cs2.toArray] w (SaysB false w) := by
  obtain ⟨b, hb⟩ : ∃ b, b = w.heap.size := ⟨_, rfl⟩
  obtain ⟨wa, hwa⟩ : ∃ wa, wa = w.alloc (.cells cs1.toArray 28) := ⟨_, rfl⟩
  obtain ⟨bb, hbb⟩ : ∃ b, b = wa.heap.size := ⟨_, rfl⟩
  obtain ⟨wb, hwb⟩ : ∃ wb, wb = wa.alloc (.cells cs2.toArray 28) := ⟨_, rfl⟩
  have kab : Below w.heap.size w wa := by rw [hwa]; exact (Below.refl _ w).alloc (Nat.le_refl _) _
  have kbc : Below wa.heap.size wa wb := by rw [hwb]; exact (Below.refl _ wa).alloc (Nat.le_refl _) _
  have hA1 : Blk wb b 28 cs1 := by
    have : Blk wa b 28 cs1 := by rw [hwa, hb]; exact Blk.new w _ _
    exact this.below_ kbc
  have hA2 : Blk wb bb 28 cs2 := by rw [hwb, hbb]; exact Blk.new wa _ _
  have x0 : wb.cell? ⟨b, 0, none⟩ = some (.int .i64 a0) := (hA1.cell 0).trans h0
  have y0 : wb.cell? ⟨bb, 0, none⟩ = some (.int .i64 a0) := (hA2.cell 0).trans k0
  have x1 : wb.cell? ⟨b, 1, none⟩ = some (.int .i64 a1) := (hA1.cell 1).trans h1
  have y1 : wb.cell? ⟨bb, 1, none⟩ = some (.int .i64 a1) := (hA2.cell 1).trans k1
  have x2 : wb.cell? ⟨b, 2, none⟩ = some (.int .i64 a2) := (hA1.cell 2).trans h2
  have y2 : wb.cell? ⟨bb, 2, none⟩ = some (.int .i64 a2) := (hA2.cell 2).trans k2
  have x3 : wb.cell? ⟨b, 3, none⟩ = some (.int .i64 a3) := (hA1.cell 3).trans h3
  have y3 : wb.cell? ⟨bb, 3, none⟩ = some (.int .i64 a3) := (hA2.cell 3).trans k3
  have x4 : wb.cell? ⟨b, 4, none⟩ = some (.int .i64 a4) := (hA1.cell 4).trans h4
  have y4 : wb.cell? ⟨bb, 4, none⟩ = some (.int .i64 a4) := (hA2.cell 4).trans k4
  have x5 : wb.cell? ⟨b, 5, none⟩ = some (.int .i64 a5) := (hA1.cell 5).trans h5
  have y5 : wb.cell? ⟨bb, 5, none⟩ = some (.int .i64 a5) := (hA2.cell 5).trans k5
  have x6 : wb.cell? ⟨b, 6, none⟩ = some (.int .i64 a6) := (hA1.cell 6).trans h6
  have y6 : wb.cell? ⟨bb, 6, none⟩ = some (.int .i64 a6) := (hA2.cell 6).trans k6
  have x7 : wb.cell? ⟨b, 7, none⟩ = some (.int .i64 a7) := (hA1.cell 7).trans h7
  have y7 : wb.cell? ⟨bb, 7, none⟩ = some (.int .i64 a7) := (hA2.cell 7).trans k7
  have x8 : wb.cell? ⟨b, 8, none⟩ = some (.int .i64 a8) := (hA1.cell 8).trans h8
  have y8 : wb.cell? ⟨bb, 8, none⟩ = some (.int .i64 c) := (hA2.cell 8).trans k8
  have hn : (a8 == c) = false := by simpa using hne
  have HK := Lib.hid (kab.trans (kbc.mono kab.size))
  have HB := Lib.hid hb; have HBB := Lib.hid hbb; have HWA := Lib.hid hwa; have HWB := Lib.hid hwb
  clear hb hwa hbb hwb kab kbc hA1 hA2 h0 k0 h1 k1 h2 k2 h3 k3 h4 k4 h5 k5 h6 k6 h7 k7 h8 k8
  go_enter Try.func23, Try.ntmps23
  go_upto_region 0 with fail
  refine wp_region_list ?_
  refine Great.wpList_boxTo rfl 28 (.tmp 0) rfl (some 2) rfl b HB.out.symm cs1.toArray rfl ?_
  rw [← HWA.out]
  refine Great.wpList_boxTo rfl 28 (.tmp 1) rfl (some 3) rfl bb HBB.out.symm cs2.toArray rfl ?_
  rw [← HWB.out]
  go_upto_region 1 with fail
  simp only [List.append_eq, List.cons_append, List.nil_append]
  go_wp2_with fail
  go_ret
  exact ⟨rfl, HK.out⟩
set_option maxRecDepth 100000 in
set_option maxHeartbeats 8000000 in
theorem refSame_no9 (cs1 cs2 : List Value) (a0 a1 a2 a3 a4 a5 a6 a7 a8 a9 c : Int) (w : World) (h0 : cs1[0]? = some (.int .i64 a0)) (k0 : cs2[0]? = some (.int .i64 a0)) (h1 : cs1[1]? = some (.int .i64 a1)) (k1 : cs2[1]? = some (.int .i64 a1)) (h2 : cs1[2]? = some (.int .i64 a2)) (k2 : cs2[2]? = some (.int .i64 a2)) (h3 : cs1[3]? = some (.int .i64 a3)) (k3 : cs2[3]? = some (.int .i64 a3)) (h4 : cs1[4]? = some (.int .i64 a4)) (k4 : cs2[4]? = some (.int .i64 a4)) (h5 : cs1[5]? = some (.int .i64 a5)) (k5 : cs2[5]? = some (.int .i64 a5)) (h6 : cs1[6]? = some (.int .i64 a6)) (k6 : cs2[6]? = some (.int .i64 a6)) (h7 : cs1[7]? = some (.int .i64 a7)) (k7 : cs2[7]? = some (.int .i64 a7)) (h8 : cs1[8]? = some (.int .i64 a8)) (k8 : cs2[8]? = some (.int .i64 a8)) (h9 : cs1[9]? = some (.int .i64 a9)) (k9 : cs2[9]? = some (.int .i64 c)) (hne : a9 ≠ c) : Calls Try.prog 23 #[.agg cs1.toArray, .agg cs2.toArray] w (SaysB false w) := by
  obtain ⟨b, hb⟩ : ∃ b, b = w.heap.size := ⟨_, rfl⟩
  obtain ⟨wa, hwa⟩ : ∃ wa, wa = w.alloc (.cells cs1.toArray 28) := ⟨_, rfl⟩
  obtain ⟨bb, hbb⟩ : ∃ b, b = wa.heap.size := ⟨_, rfl⟩
  obtain ⟨wb, hwb⟩ : ∃ wb, wb = wa.alloc (.cells cs2.toArray 28) := ⟨_, rfl⟩
  have kab : Below w.heap.size w wa := by rw [hwa]; exact (Below.refl _ w).alloc (Nat.le_refl _) _
  have kbc : Below wa.heap.size wa wb := by rw [hwb]; exact (Below.refl _ wa).alloc (Nat.le_refl _) _
  have hA1 : Blk wb b 28 cs1 := by
    have : Blk wa b 28 cs1 := by rw [hwa, hb]; exact Blk.new w _ _
    exact this.below_ kbc
  have hA2 : Blk wb bb 28 cs2 := by rw [hwb, hbb]; exact Blk.new wa _ _
  have x0 : wb.cell? ⟨b, 0, none⟩ = some (.int .i64 a0) := (hA1.cell 0).trans h0
  have y0 : wb.cell? ⟨bb, 0, none⟩ = some (.int .i64 a0) := (hA2.cell 0).trans k0
  have x1 : wb.cell? ⟨b, 1, none⟩ = some (.int .i64 a1) := (hA1.cell 1).trans h1
  have y1 : wb.cell? ⟨bb, 1, none⟩ = some (.int .i64 a1) := (hA2.cell 1).trans k1
  have x2 : wb.cell? ⟨b, 2, none⟩ = some (.int .i64 a2) := (hA1.cell 2).trans h2
  have y2 : wb.cell? ⟨bb, 2, none⟩ = some (.int .i64 a2) := (hA2.cell 2).trans k2
  have x3 : wb.cell? ⟨b, 3, none⟩ = some (.int .i64 a3) := (hA1.cell 3).trans h3
  have y3 : wb.cell? ⟨bb, 3, none⟩ = some (.int .i64 a3) := (hA2.cell 3).trans k3
  have x4 : wb.cell? ⟨b, 4, none⟩ = some (.int .i64 a4) := (hA1.cell 4).trans h4
  have y4 : wb.cell? ⟨bb, 4, none⟩ = some (.int .i64 a4) := (hA2.cell 4).trans k4
  have x5 : wb.cell? ⟨b, 5, none⟩ = some (.int .i64 a5) := (hA1.cell 5).trans h5
  have y5 : wb.cell? ⟨bb, 5, none⟩ = some (.int .i64 a5) := (hA2.cell 5).trans k5
  have x6 : wb.cell? ⟨b, 6, none⟩ = some (.int .i64 a6) := (hA1.cell 6).trans h6
  have y6 : wb.cell? ⟨bb, 6, none⟩ = some (.int .i64 a6) := (hA2.cell 6).trans k6
  have x7 : wb.cell? ⟨b, 7, none⟩ = some (.int .i64 a7) := (hA1.cell 7).trans h7
  have y7 : wb.cell? ⟨bb, 7, none⟩ = some (.int .i64 a7) := (hA2.cell 7).trans k7
  have x8 : wb.cell? ⟨b, 8, none⟩ = some (.int .i64 a8) := (hA1.cell 8).trans h8
  have y8 : wb.cell? ⟨bb, 8, none⟩ = some (.int .i64 a8) := (hA2.cell 8).trans k8
  have x9 : wb.cell? ⟨b, 9, none⟩ = some (.int .i64 a9) := (hA1.cell 9).trans h9
  have y9 : wb.cell? ⟨bb, 9, none⟩ = some (.int .i64 c) := (hA2.cell 9).trans k9
  have hn : (a9 == c) = false := by simpa using hne
  have HK := Lib.hid (kab.trans (kbc.mono kab.size))
  have HB := Lib.hid hb; have HBB := Lib.hid hbb; have HWA := Lib.hid hwa; have HWB := Lib.hid hwb
  clear hb hwa hbb hwb kab kbc hA1 hA2 h0 k0 h1 k1 h2 k2 h3 k3 h4 k4 h5 k5 h6 k6 h7 k7 h8 k8 h9 k9
  go_enter Try.func23, Try.ntmps23
  go_upto_region 0 with fail
  refine wp_region_list ?_
  refine Great.wpList_boxTo rfl 28 (.tmp 0) rfl (some 2) rfl b HB.out.symm cs1.toArray rfl ?_
  rw [← HWA.out]
  refine Great.wpList_boxTo rfl 28 (.tmp 1) rfl (some 3) rfl bb HBB.out.symm cs2.toArray rfl ?_
  rw [← HWB.out]
  go_upto_region 1 with fail
  simp only [List.append_eq, List.cons_append, List.nil_append]
  go_wp2_with fail
  go_ret
  exact ⟨rfl, HK.out⟩
set_option maxRecDepth 100000 in
set_option maxHeartbeats 8000000 in
theorem refSame_no10 (cs1 cs2 : List Value) (a0 a1 a2 a3 a4 a5 a6 a7 a8 a9 a10 c : Int) (w : World) (h0 : cs1[0]? = some (.int .i64 a0)) (k0 : cs2[0]? = some (.int .i64 a0)) (h1 : cs1[1]? = some (.int .i64 a1)) (k1 : cs2[1]? = some (.int .i64 a1)) (h2 : cs1[2]? = some (.int .i64 a2)) (k2 : cs2[2]? = some (.int .i64 a2)) (h3 : cs1[3]? = some (.int .i64 a3)) (k3 : cs2[3]? = some (.int .i64 a3)) (h4 : cs1[4]? = some (.int .i64 a4)) (k4 : cs2[4]? = some (.int .i64 a4)) (h5 : cs1[5]? = some (.int .i64 a5)) (k5 : cs2[5]? = some (.int .i64 a5)) (h6 : cs1[6]? = some (.int .i64 a6)) (k6 : cs2[6]? = some (.int .i64 a6)) (h7 : cs1[7]? = some (.int .i64 a7)) (k7 : cs2[7]? = some (.int .i64 a7)) (h8 : cs1[8]? = some (.int .i64 a8)) (k8 : cs2[8]? = some (.int .i64 a8)) (h9 : cs1[9]? = some (.int .i64 a9)) (k9 : cs2[9]? = some (.int .i64 a9)) (h10 : cs1[10]? = some (.int .i64 a10)) (k10 : cs2[10]? = some (.int .i64 c)) (hne : a10 ≠ c) : Calls Try.prog 23 #[.agg cs1.toArray, .agg cs2.toArray] w (SaysB false w) := by
  obtain ⟨b, hb⟩ : ∃ b, b = w.heap.size := ⟨_, rfl⟩
  obtain ⟨wa, hwa⟩ : ∃ wa, wa = w.alloc (.cells cs1.toArray 28) := ⟨_, rfl⟩
  obtain ⟨bb, hbb⟩ : ∃ b, b = wa.heap.size := ⟨_, rfl⟩
  obtain ⟨wb, hwb⟩ : ∃ wb, wb = wa.alloc (.cells cs2.toArray 28) := ⟨_, rfl⟩
  have kab : Below w.heap.size w wa := by rw [hwa]; exact (Below.refl _ w).alloc (Nat.le_refl _) _
  have kbc : Below wa.heap.size wa wb := by rw [hwb]; exact (Below.refl _ wa).alloc (Nat.le_refl _) _
  have hA1 : Blk wb b 28 cs1 := by
    have : Blk wa b 28 cs1 := by rw [hwa, hb]; exact Blk.new w _ _
    exact this.below_ kbc
  have hA2 : Blk wb bb 28 cs2 := by rw [hwb, hbb]; exact Blk.new wa _ _
  have x0 : wb.cell? ⟨b, 0, none⟩ = some (.int .i64 a0) := (hA1.cell 0).trans h0
  have y0 : wb.cell? ⟨bb, 0, none⟩ = some (.int .i64 a0) := (hA2.cell 0).trans k0
  have x1 : wb.cell? ⟨b, 1, none⟩ = some (.int .i64 a1) := (hA1.cell 1).trans h1
  have y1 : wb.cell? ⟨bb, 1, none⟩ = some (.int .i64 a1) := (hA2.cell 1).trans k1
  have x2 : wb.cell? ⟨b, 2, none⟩ = some (.int .i64 a2) := (hA1.cell 2).trans h2
  have y2 : wb.cell? ⟨bb, 2, none⟩ = some (.int .i64 a2) := (hA2.cell 2).trans k2
  have x3 : wb.cell? ⟨b, 3, none⟩ = some (.int .i64 a3) := (hA1.cell 3).trans h3
  have y3 : wb.cell? ⟨bb, 3, none⟩ = some (.int .i64 a3) := (hA2.cell 3).trans k3
  have x4 : wb.cell? ⟨b, 4, none⟩ = some (.int .i64 a4) := (hA1.cell 4).trans h4
  have y4 : wb.cell? ⟨bb, 4, none⟩ = some (.int .i64 a4) := (hA2.cell 4).trans k4
  have x5 : wb.cell? ⟨b, 5, none⟩ = some (.int .i64 a5) := (hA1.cell 5).trans h5
  have y5 : wb.cell? ⟨bb, 5, none⟩ = some (.int .i64 a5) := (hA2.cell 5).trans k5
  have x6 : wb.cell? ⟨b, 6, none⟩ = some (.int .i64 a6) := (hA1.cell 6).trans h6
  have y6 : wb.cell? ⟨bb, 6, none⟩ = some (.int .i64 a6) := (hA2.cell 6).trans k6
  have x7 : wb.cell? ⟨b, 7, none⟩ = some (.int .i64 a7) := (hA1.cell 7).trans h7
  have y7 : wb.cell? ⟨bb, 7, none⟩ = some (.int .i64 a7) := (hA2.cell 7).trans k7
  have x8 : wb.cell? ⟨b, 8, none⟩ = some (.int .i64 a8) := (hA1.cell 8).trans h8
  have y8 : wb.cell? ⟨bb, 8, none⟩ = some (.int .i64 a8) := (hA2.cell 8).trans k8
  have x9 : wb.cell? ⟨b, 9, none⟩ = some (.int .i64 a9) := (hA1.cell 9).trans h9
  have y9 : wb.cell? ⟨bb, 9, none⟩ = some (.int .i64 a9) := (hA2.cell 9).trans k9
  have x10 : wb.cell? ⟨b, 10, none⟩ = some (.int .i64 a10) := (hA1.cell 10).trans h10
  have y10 : wb.cell? ⟨bb, 10, none⟩ = some (.int .i64 c) := (hA2.cell 10).trans k10
  have hn : (a10 == c) = false := by simpa using hne
  have HK := Lib.hid (kab.trans (kbc.mono kab.size))
  have HB := Lib.hid hb; have HBB := Lib.hid hbb; have HWA := Lib.hid hwa; have HWB := Lib.hid hwb
  clear hb hwa hbb hwb kab kbc hA1 hA2 h0 k0 h1 k1 h2 k2 h3 k3 h4 k4 h5 k5 h6 k6 h7 k7 h8 k8 h9 k9 h10 k10
  go_enter Try.func23, Try.ntmps23
  go_upto_region 0 with fail
  refine wp_region_list ?_
  refine Great.wpList_boxTo rfl 28 (.tmp 0) rfl (some 2) rfl b HB.out.symm cs1.toArray rfl ?_
  rw [← HWA.out]
  refine Great.wpList_boxTo rfl 28 (.tmp 1) rfl (some 3) rfl bb HBB.out.symm cs2.toArray rfl ?_
  rw [← HWB.out]
  go_upto_region 1 with fail
  simp only [List.append_eq, List.cons_append, List.nil_append]
  go_wp2_with fail
  go_ret
  exact ⟨rfl, HK.out⟩
set_option maxRecDepth 100000 in
set_option maxHeartbeats 8000000 in
theorem refSame_no11 (cs1 cs2 : List Value) (a0 a1 a2 a3 a4 a5 a6 a7 a8 a9 a10 a11 c : Int) (w : World) (h0 : cs1[0]? = some (.int .i64 a0)) (k0 : cs2[0]? = some (.int .i64 a0)) (h1 : cs1[1]? = some (.int .i64 a1)) (k1 : cs2[1]? = some (.int .i64 a1)) (h2 : cs1[2]? = some (.int .i64 a2)) (k2 : cs2[2]? = some (.int .i64 a2)) (h3 : cs1[3]? = some (.int .i64 a3)) (k3 : cs2[3]? = some (.int .i64 a3)) (h4 : cs1[4]? = some (.int .i64 a4)) (k4 : cs2[4]? = some (.int .i64 a4)) (h5 : cs1[5]? = some (.int .i64 a5)) (k5 : cs2[5]? = some (.int .i64 a5)) (h6 : cs1[6]? = some (.int .i64 a6)) (k6 : cs2[6]? = some (.int .i64 a6)) (h7 : cs1[7]? = some (.int .i64 a7)) (k7 : cs2[7]? = some (.int .i64 a7)) (h8 : cs1[8]? = some (.int .i64 a8)) (k8 : cs2[8]? = some (.int .i64 a8)) (h9 : cs1[9]? = some (.int .i64 a9)) (k9 : cs2[9]? = some (.int .i64 a9)) (h10 : cs1[10]? = some (.int .i64 a10)) (k10 : cs2[10]? = some (.int .i64 a10)) (h11 : cs1[11]? = some (.int .i64 a11)) (k11 : cs2[11]? = some (.int .i64 c)) (hne : a11 ≠ c) : Calls Try.prog 23 #[.agg cs1.toArray, .agg cs2.toArray] w (SaysB false w) := by
  obtain ⟨b, hb⟩ : ∃ b, b = w.heap.size := ⟨_, rfl⟩
  obtain ⟨wa, hwa⟩ : ∃ wa, wa = w.alloc (.cells cs1.toArray 28) := ⟨_, rfl⟩
  obtain ⟨bb, hbb⟩ : ∃ b, b = wa.heap.size := ⟨_, rfl⟩
  obtain ⟨wb, hwb⟩ : ∃ wb, wb = wa.alloc (.cells cs2.toArray 28) := ⟨_, rfl⟩
  have kab : Below w.heap.size w wa := by rw [hwa]; exact (Below.refl _ w).alloc (Nat.le_refl _) _
  have kbc : Below wa.heap.size wa wb := by rw [hwb]; exact (Below.refl _ wa).alloc (Nat.le_refl _) _
  have hA1 : Blk wb b 28 cs1 := by
    have : Blk wa b 28 cs1 := by rw [hwa, hb]; exact Blk.new w _ _
    exact this.below_ kbc
  have hA2 : Blk wb bb 28 cs2 := by rw [hwb, hbb]; exact Blk.new wa _ _
  have x0 : wb.cell? ⟨b, 0, none⟩ = some (.int .i64 a0) := (hA1.cell 0).trans h0
  have y0 : wb.cell? ⟨bb, 0, none⟩ = some (.int .i64 a0) := (hA2.cell 0).trans k0
  have x1 : wb.cell? ⟨b, 1, none⟩ = some (.int .i64 a1) := (hA1.cell 1).trans h1
  have y1 : wb.cell? ⟨bb, 1, none⟩ = some (.int .i64 a1) := (hA2.cell 1).trans k1
  have x2 : wb.cell? ⟨b, 2, none⟩ = some (.int .i64 a2) := (hA1.cell 2).trans h2
  have y2 : wb.cell? ⟨bb, 2, none⟩ = some (.int .i64 a2) := (hA2.cell 2).trans k2
  have x3 : wb.cell? ⟨b, 3, none⟩ = some (.int .i64 a3) := (hA1.cell 3).trans h3
  have y3 : wb.cell? ⟨bb, 3, none⟩ = some (.int .i64 a3) := (hA2.cell 3).trans k3
  have x4 : wb.cell? ⟨b, 4, none⟩ = some (.int .i64 a4) := (hA1.cell 4).trans h4
  have y4 : wb.cell? ⟨bb, 4, none⟩ = some (.int .i64 a4) := (hA2.cell 4).trans k4
  have x5 : wb.cell? ⟨b, 5, none⟩ = some (.int .i64 a5) := (hA1.cell 5).trans h5
  have y5 : wb.cell? ⟨bb, 5, none⟩ = some (.int .i64 a5) := (hA2.cell 5).trans k5
  have x6 : wb.cell? ⟨b, 6, none⟩ = some (.int .i64 a6) := (hA1.cell 6).trans h6
  have y6 : wb.cell? ⟨bb, 6, none⟩ = some (.int .i64 a6) := (hA2.cell 6).trans k6
  have x7 : wb.cell? ⟨b, 7, none⟩ = some (.int .i64 a7) := (hA1.cell 7).trans h7
  have y7 : wb.cell? ⟨bb, 7, none⟩ = some (.int .i64 a7) := (hA2.cell 7).trans k7
  have x8 : wb.cell? ⟨b, 8, none⟩ = some (.int .i64 a8) := (hA1.cell 8).trans h8
  have y8 : wb.cell? ⟨bb, 8, none⟩ = some (.int .i64 a8) := (hA2.cell 8).trans k8
  have x9 : wb.cell? ⟨b, 9, none⟩ = some (.int .i64 a9) := (hA1.cell 9).trans h9
  have y9 : wb.cell? ⟨bb, 9, none⟩ = some (.int .i64 a9) := (hA2.cell 9).trans k9
  have x10 : wb.cell? ⟨b, 10, none⟩ = some (.int .i64 a10) := (hA1.cell 10).trans h10
  have y10 : wb.cell? ⟨bb, 10, none⟩ = some (.int .i64 a10) := (hA2.cell 10).trans k10
  have x11 : wb.cell? ⟨b, 11, none⟩ = some (.int .i64 a11) := (hA1.cell 11).trans h11
  have y11 : wb.cell? ⟨bb, 11, none⟩ = some (.int .i64 c) := (hA2.cell 11).trans k11
  have hn : (a11 == c) = false := by simpa using hne
  have HK := Lib.hid (kab.trans (kbc.mono kab.size))
  have HB := Lib.hid hb; have HBB := Lib.hid hbb; have HWA := Lib.hid hwa; have HWB := Lib.hid hwb
  clear hb hwa hbb hwb kab kbc hA1 hA2 h0 k0 h1 k1 h2 k2 h3 k3 h4 k4 h5 k5 h6 k6 h7 k7 h8 k8 h9 k9 h10 k10 h11 k11
  go_enter Try.func23, Try.ntmps23
  go_upto_region 0 with fail
  refine wp_region_list ?_
  refine Great.wpList_boxTo rfl 28 (.tmp 0) rfl (some 2) rfl b HB.out.symm cs1.toArray rfl ?_
  rw [← HWA.out]
  refine Great.wpList_boxTo rfl 28 (.tmp 1) rfl (some 3) rfl bb HBB.out.symm cs2.toArray rfl ?_
  rw [← HWB.out]
  go_upto_region 1 with fail
  simp only [List.append_eq, List.cons_append, List.nil_append]
  go_wp2_with fail
  go_ret
  exact ⟨rfl, HK.out⟩
end Go.Proofs.Ytokidpajialgbaa
