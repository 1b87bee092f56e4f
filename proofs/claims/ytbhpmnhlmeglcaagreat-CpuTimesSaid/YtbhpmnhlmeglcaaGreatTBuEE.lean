/- cpu: works of plain codes on the accumulator. -/
import Derived.Test.YtbhpmnhlmeglcaaGreatTBuED
import Derived.Test.YtbhpmnhlmeglcaaGreatTMem
namespace Go.Proofs.YtbhpmnhlmeglcaaGreat
set_option linter.unusedSimpArgs false
set_option linter.unusedVariables false
open Go.RowKit Go.Sort
def Cp.alued (c : Cp) (b : Int) : Cp := (c.withR { c.r with a := doA (c.code / 8 % 8) c.r.a b c.r.f }).setF (doF (c.code / 8 % 8) c.r.a b c.r.f)
theorem y_07 (x : Int) : 0 ≤ x / 8 % 8 ∧ x / 8 % 8 ≤ 7 := by omega
set_option maxRecDepth 100000 in
set_option maxHeartbeats 8000000 in
theorem counts_aluLo (g : Nat) (c : Cp) (ho : c.Ok) : CountsTo 22 g c (c.alued c.lo) := by
  intro w sv h
  have H := Lib.hid h
  unfold Cp.alued
  have HY := Lib.hid (fun w => cpu_y c.code w ho.code)
  have HI : Hid (∀ w, Calls Tryz.prog 115 #[.int .i64 (c.code / 8 % 8), .int .u8 c.r.a, .int .u8 c.lo, .int .u8 c.r.f] w (Two (doA (c.code / 8 % 8) c.r.a c.lo c.r.f) (doF (c.code / 8 % 8) c.r.a c.lo c.r.f) w)) := Lib.hid (fun w => do_any _ _ _ _ w (y_07 _) ho.r.a ho.lo)
  generalize doA (c.code / 8 % 8) c.r.a c.lo c.r.f = v at HI ⊢
  generalize doF (c.code / 8 % 8) c.r.a c.lo c.r.f = f at HI ⊢
  generalize c.code / 8 % 8 = y at HY HI
  clear h ho
  go_enter Tryz.func73, Tryz.ntmps73
  go_upto_region 24 with fail
  refine until_start 18 (fun u => u.cell? ⟨g, 0, none⟩ = some (.int .u8 c.r.a) ∧ u.cell? ⟨g, 1, none⟩ = some (.int .u8 c.r.f) ∧ u.cell? ⟨g, 32, none⟩ = some (.int .u8 c.code) ∧ u.cell? ⟨g, 36, none⟩ = some (.int .u8 c.lo)) (by kernel_rfl) ?_
  have HD := Lib.hid (H.out.drewAt (w' := w.drew) ⟨1, rfl⟩)
  have hS : Hid ((fun u : World => u.cell? ⟨g, 0, none⟩ = some (.int .u8 c.r.a) ∧ u.cell? ⟨g, 1, none⟩ = some (.int .u8 c.r.f) ∧ u.cell? ⟨g, 32, none⟩ = some (.int .u8 c.code) ∧ u.cell? ⟨g, 36, none⟩ = some (.int .u8 c.lo)) w.drew) := ⟨HD.out.blk.cell 0, HD.out.blk.cell 1, HD.out.blk.cell 32, HD.out.blk.cell 36⟩
  refine until_take (i := 0) (v := ?_) rfl (by kernel_rfl) (by kernel_rfl) (by kernel_rfl) rfl (fun _ _ _ h => h) (fun _ => hS.out) (Or.inl ⟨by rfl, ?_⟩) ?_
  rotate_left
  · (intro u _; go_simp; try with_reducible rfl)
  try simp only [Act.put, List.setIfInBounds_toArray, List.set_cons_zero, List.set_cons_succ]
  refine until_take (i := 1) (v := ?_) rfl (by kernel_rfl) (by kernel_rfl) (by kernel_rfl) rfl (fun _ _ _ h => h) (fun _ => hS.out) (Or.inl ⟨by rfl, ?_⟩) ?_
  rotate_left
  · (intro u _; go_simp; try with_reducible rfl)
  try simp only [Act.put, List.setIfInBounds_toArray, List.set_cons_zero, List.set_cons_succ]
  refine until_take (i := 2) (v := ?_) rfl (by kernel_rfl) (by kernel_rfl) (by kernel_rfl) rfl (fun _ _ _ h => h) (fun _ => hS.out) (Or.inl ⟨by rfl, ?_⟩) ?_
  rotate_left
  · (intro u _; go_simp; try with_reducible rfl)
  try simp only [Act.put, List.setIfInBounds_toArray, List.set_cons_zero, List.set_cons_succ]
  refine until_take (i := 3) (v := ?_) rfl (by kernel_rfl) (by kernel_rfl) (by kernel_rfl) rfl (fun _ _ _ h => h) (fun _ => hS.out) (Or.inl ⟨by rfl, ?_⟩) ?_
  rotate_left
  · (intro u _; go_simp; try with_reducible rfl)
  try simp only [Act.put, List.setIfInBounds_toArray, List.set_cons_zero, List.set_cons_succ]
  refine until_take (i := 6) (v := ?_) rfl (by kernel_rfl) (by kernel_rfl) (by kernel_rfl) rfl (fun _ _ _ h => h) (fun _ => hS.out) (Or.inl ⟨by rfl, ?_⟩) ?_
  rotate_left
  · (intro u _; go_simp; try with_reducible rfl)
  try simp only [Act.put, List.setIfInBounds_toArray, List.set_cons_zero, List.set_cons_succ]
  refine until_take (i := 7) (v := ?_) rfl (by kernel_rfl) (by kernel_rfl) (by kernel_rfl) rfl (fun _ _ _ h => h) (fun _ => hS.out) (Or.inl ⟨by rfl, ?_⟩) ?_
  rotate_left
  · (intro u _; go_simp; try with_reducible rfl)
  try simp only [Act.put, List.setIfInBounds_toArray, List.set_cons_zero, List.set_cons_succ]
  refine until_take (i := 8) (v := ?_) rfl (by kernel_rfl) (by kernel_rfl) (by kernel_rfl) rfl (fun _ _ _ h => h) (fun _ => hS.out) (Or.inl ⟨by rfl, ?_⟩) ?_
  rotate_left
  · (intro u _; go_simp; try with_reducible rfl)
  try simp only [Act.put, List.setIfInBounds_toArray, List.set_cons_zero, List.set_cons_succ]
  refine until_take (i := 10) (v := ?_) rfl (by kernel_rfl) (by kernel_rfl) (by kernel_rfl) rfl (fun _ _ _ h => h) (fun _ => hS.out) (Or.inl ⟨by rfl, ?_⟩) ?_
  rotate_left
  · (intro u _; go_simp; try with_reducible rfl)
  try simp only [Act.put, List.setIfInBounds_toArray, List.set_cons_zero, List.set_cons_succ]
  refine until_take (i := 11) (v := ?_) rfl (by kernel_rfl) (by kernel_rfl) (by kernel_rfl) rfl (fun _ _ _ h => h) (fun _ => hS.out) (Or.inl ⟨by rfl, ?_⟩) ?_
  rotate_left
  · (intro u _; go_simp; try with_reducible rfl)
  try simp only [Act.put, List.setIfInBounds_toArray, List.set_cons_zero, List.set_cons_succ]
  refine until_take (i := 12) (v := ?_) rfl (by kernel_rfl) (by kernel_rfl) (by kernel_rfl) rfl (fun _ _ _ h => h) (fun _ => hS.out) (Or.inl ⟨by rfl, ?_⟩) ?_
  rotate_left
  · (intro u _; go_simp; try with_reducible rfl)
  try simp only [Act.put, List.setIfInBounds_toArray, List.set_cons_zero, List.set_cons_succ]
  refine until_take (i := 14) (v := ?_) rfl (by kernel_rfl) (by kernel_rfl) (by kernel_rfl) rfl (fun _ _ _ h => h) (fun _ => hS.out) (Or.inl ⟨by rfl, ?_⟩) ?_
  rotate_left
  · (intro u _; go_simp; try with_reducible rfl)
  try simp only [Act.put, List.setIfInBounds_toArray, List.set_cons_zero, List.set_cons_succ]
  refine until_take (i := 15) (v := ?_) rfl (by kernel_rfl) (by kernel_rfl) (by kernel_rfl) rfl (fun _ _ _ h => h) (fun _ => hS.out) (Or.inl ⟨by rfl, ?_⟩) ?_
  rotate_left
  · (intro u _; go_simp; try with_reducible rfl)
  try simp only [Act.put, List.setIfInBounds_toArray, List.set_cons_zero, List.set_cons_succ]
  refine until_take (i := 16) (v := ?_) rfl (by kernel_rfl) (by kernel_rfl) (by kernel_rfl) rfl (fun _ _ _ h => h) (fun _ => hS.out) (Or.inl ⟨by rfl, ?_⟩) ?_
  rotate_left
  · (intro u _; go_simp; try with_reducible rfl)
  try simp only [Act.put, List.setIfInBounds_toArray, List.set_cons_zero, List.set_cons_succ]
  refine until_load (i := 4) (v := ?_) [5, 18] rfl (by kernel_rfl) (by kernel_rfl) (by kernel_rfl) (by kernel_rfl) (fun _ _ _ h => h) hS.out (Or.inl ⟨by rfl, ?_⟩) ?_
  rotate_left
  · (rintro u ⟨s0, s1, s32, s36⟩; go_simp; try with_reducible rfl)
  try simp only [Act.put, List.setIfInBounds_toArray, List.set_cons_zero, List.set_cons_succ]
  refine until_load (i := 9) (v := ?_) [18] rfl (by kernel_rfl) (by kernel_rfl) (by kernel_rfl) (by kernel_rfl) (fun _ _ _ h => h) hS.out (Or.inl ⟨by rfl, ?_⟩) ?_
  rotate_left
  · (rintro u ⟨s0, s1, s32, s36⟩; go_simp; try with_reducible rfl)
  try simp only [Act.put, List.setIfInBounds_toArray, List.set_cons_zero, List.set_cons_succ]
  refine until_load (i := 13) (v := ?_) [18] rfl (by kernel_rfl) (by kernel_rfl) (by kernel_rfl) (by kernel_rfl) (fun _ _ _ h => h) hS.out (Or.inl ⟨by rfl, ?_⟩) ?_
  rotate_left
  · (rintro u ⟨s0, s1, s32, s36⟩; go_simp; try with_reducible rfl)
  try simp only [Act.put, List.setIfInBounds_toArray, List.set_cons_zero, List.set_cons_succ]
  refine until_load (i := 17) (v := ?_) [18] rfl (by kernel_rfl) (by kernel_rfl) (by kernel_rfl) (by kernel_rfl) (fun _ _ _ h => h) hS.out (Or.inl ⟨by rfl, ?_⟩) ?_
  rotate_left
  · (rintro u ⟨s0, s1, s32, s36⟩; go_simp; try with_reducible rfl)
  try simp only [Act.put, List.setIfInBounds_toArray, List.set_cons_zero, List.set_cons_succ]
  refine until_ready (rs := [5]) (by kernel_rfl) (by simp) ?_
  refine AllUntil.cons rfl (fun K hK => ?_) AllUntil.nil
  go_simp
  refine (HY.out _).mono ?_
  rintro e w1 ⟨rfl, rfl⟩
  refine hK.out _ _ (fun _ => hS.out) ?_
  clear hK K
  try simp only [Act.put, List.setIfInBounds_toArray, List.set_cons_zero, List.set_cons_succ]
  refine until_ready (rs := [18]) (by kernel_rfl) (by simp) ?_
  refine AllUntil.cons rfl (fun K hK => ?_) AllUntil.nil
  go_simp
  refine (HI.out _).mono ?_
  rintro e u ⟨rfl, hb1⟩
  have H1 := Lib.hid (CpAt.below HD.out hb1)
  have HB1 := Lib.hid hb1
  have c0 : u.cell? ⟨g, 0, none⟩ = some (.int .u8 c.r.a) := H1.out.blk.cell 0
  have f0 := H1.out.blk.frozen 0
  clear hb1
  refine hK.out _ _ (fun h => by simp at h) ?_
  clear hK K
  try simp only [Act.put, List.setIfInBounds_toArray, List.set_cons_zero, List.set_cons_succ]
  refine until_take (i := 19) (v := ?_) rfl (by kernel_rfl) (by kernel_rfl) (by kernel_rfl) rfl (fun _ _ _ h => h) (fun h => by simp at h) (Or.inl ⟨by rfl, ?_⟩) ?_
  rotate_left
  · (intro u _; go_simp; try with_reducible rfl)
  try simp only [Act.put, List.setIfInBounds_toArray, List.set_cons_zero, List.set_cons_succ]
  refine until_take (i := 20) (v := ?_) rfl (by kernel_rfl) (by kernel_rfl) (by kernel_rfl) rfl (fun _ _ _ h => h) (fun h => by simp at h) (Or.inl ⟨by rfl, ?_⟩) ?_
  rotate_left
  · (intro u _; go_simp; try with_reducible rfl)
  try simp only [Act.put, List.setIfInBounds_toArray, List.set_cons_zero, List.set_cons_succ]
  refine until_take (i := 21) (v := ?_) rfl (by kernel_rfl) (by kernel_rfl) (by kernel_rfl) rfl (fun _ _ _ h => h) (fun h => by simp at h) (Or.inl ⟨by rfl, ?_⟩) ?_
  rotate_left
  · (intro u _; go_simp; try with_reducible rfl)
  try simp only [Act.put, List.setIfInBounds_toArray, List.set_cons_zero, List.set_cons_succ]
  refine until_take (i := 22) (v := ?_) rfl (by kernel_rfl) (by kernel_rfl) (by kernel_rfl) rfl (fun _ _ _ h => h) (fun h => by simp at h) (Or.inl ⟨by rfl, ?_⟩) ?_
  rotate_left
  · (intro u _; go_simp; try with_reducible rfl)
  try simp only [Act.put, List.setIfInBounds_toArray, List.set_cons_zero, List.set_cons_succ]
  refine until_take (i := 23) (v := ?_) rfl (by kernel_rfl) (by kernel_rfl) (by kernel_rfl) rfl (fun _ _ _ h => h) (fun h => by simp at h) (Or.inl ⟨by rfl, ?_⟩) ?_
  rotate_left
  · (intro u _; go_simp; try with_reducible rfl)
  try simp only [Act.put, List.setIfInBounds_toArray, List.set_cons_zero, List.set_cons_succ]
  refine until_ready (rs := [24]) (by kernel_rfl) (by simp) ?_
  refine AllUntil.cons rfl (fun K hK => ?_) AllUntil.nil
  go_simp
  refine hK.out _ _ (fun h => by simp at h) ?_
  clear hK K
  try simp only [Act.put, List.setIfInBounds_toArray, List.set_cons_zero, List.set_cons_succ]
  refine until_ready (rs := [25]) (by kernel_rfl) (by simp) ?_
  refine AllUntil.cons rfl (fun K hK => ?_) AllUntil.nil
  go_simp
  refine hK.out _ _ (fun h => by simp at h) ?_
  clear hK K
  try simp only [Act.put, List.setIfInBounds_toArray, List.set_cons_zero, List.set_cons_succ]
  refine until_done (by kernel_rfl) ?_ _
  have HOO := Lib.hid (Only.set g 0 u (.int .u8 v))
  have H2 : Hid (CpAt (u.setCell ⟨g, 0, none⟩ (.int .u8 v)) g sv (c.withR { c.r with a := v })) := Lib.hid (H1.out.turn HOO.out (H1.out.blk.set_ 0 _) rfl)
  go_wp2_with (first
    | (go_at_call 69; refine (cp_set g sv _ _ _ H2.out).mono ?_; rintro e w3 ⟨rfl, h3⟩))
  exact bodyPost_end (results_none rfl _ _ _) rfl ⟨rfl, CpTo.step (.inl rfl) (Drew.ch ⟨1, rfl⟩) (CpTo.step (.inl rfl) (Below.ch HB1.out) (CpTo.step (.inl rfl) (HOO.out.ch.mono (fun _ _ hk => .inl hk)) h3))⟩
set_option maxRecDepth 100000 in
set_option maxHeartbeats 8000000 in
theorem counts_aluReg (g : Nat) (c : Cp) (ho : c.Ok) : CountsTo 23 g c (c.alued (c.r.byte (c.code % 8) c.ix)) := by
  intro w sv h
  have H := Lib.hid h
  unfold Cp.alued
  have HY := Lib.hid (fun w => cpu_y c.code w ho.code)
  have HZ := Lib.hid (fun w => cpu_z c.code w ho.code)
  have HI : Hid (∀ w, Calls Tryz.prog 115 #[.int .i64 (c.code / 8 % 8), .int .u8 c.r.a, .int .u8 (c.r.byte (c.code % 8) c.ix), .int .u8 c.r.f] w (Two (doA (c.code / 8 % 8) c.r.a (c.r.byte (c.code % 8) c.ix) c.r.f) (doF (c.code / 8 % 8) c.r.a (c.r.byte (c.code % 8) c.ix) c.r.f) w)) := Lib.hid (fun w => do_any _ _ _ _ w (y_07 _) ho.r.a (b8_byte ho.r _ _))
  have HBY := Lib.hid (fun w (h : CpAt w g sv c) => byte_any c.r 46 (c.tail sv) g (c.code % 8) c.ix w h.blk ho.r)
  generalize c.code % 8 = z at HZ HI HBY ⊢
  generalize c.r.byte z c.ix = b at HI HBY ⊢
  generalize doA (c.code / 8 % 8) c.r.a b c.r.f = v at HI ⊢
  generalize doF (c.code / 8 % 8) c.r.a b c.r.f = f at HI ⊢
  generalize c.code / 8 % 8 = y at HY HI
  clear h ho
  go_enter Tryz.func73, Tryz.ntmps73
  go_upto_region 26 with fail
  refine until_start 25 (fun u => u.cell? ⟨g, 0, none⟩ = some (.int .u8 c.r.a) ∧ u.cell? ⟨g, 1, none⟩ = some (.int .u8 c.r.f) ∧ u.cell? ⟨g, 32, none⟩ = some (.int .u8 c.code) ∧ u.cell? ⟨g, 33, none⟩ = some (.int .i64 c.ix)) (by kernel_rfl) ?_
  have HD := Lib.hid (H.out.drewAt (w' := w.drew) ⟨1, rfl⟩)
  have hS : Hid ((fun u : World => u.cell? ⟨g, 0, none⟩ = some (.int .u8 c.r.a) ∧ u.cell? ⟨g, 1, none⟩ = some (.int .u8 c.r.f) ∧ u.cell? ⟨g, 32, none⟩ = some (.int .u8 c.code) ∧ u.cell? ⟨g, 33, none⟩ = some (.int .i64 c.ix)) w.drew) := ⟨HD.out.blk.cell 0, HD.out.blk.cell 1, HD.out.blk.cell 32, HD.out.blk.cell 33⟩
  refine until_take (i := 0) (v := ?_) rfl (by kernel_rfl) (by kernel_rfl) (by kernel_rfl) rfl (fun _ _ _ h => h) (fun _ => hS.out) (Or.inl ⟨by rfl, ?_⟩) ?_
  rotate_left
  · (intro u _; go_simp; try with_reducible rfl)
  try simp only [Act.put, List.setIfInBounds_toArray, List.set_cons_zero, List.set_cons_succ]
  refine until_take (i := 1) (v := ?_) rfl (by kernel_rfl) (by kernel_rfl) (by kernel_rfl) rfl (fun _ _ _ h => h) (fun _ => hS.out) (Or.inl ⟨by rfl, ?_⟩) ?_
  rotate_left
  · (intro u _; go_simp; try with_reducible rfl)
  try simp only [Act.put, List.setIfInBounds_toArray, List.set_cons_zero, List.set_cons_succ]
  refine until_take (i := 2) (v := ?_) rfl (by kernel_rfl) (by kernel_rfl) (by kernel_rfl) rfl (fun _ _ _ h => h) (fun _ => hS.out) (Or.inl ⟨by rfl, ?_⟩) ?_
  rotate_left
  · (intro u _; go_simp; try with_reducible rfl)
  try simp only [Act.put, List.setIfInBounds_toArray, List.set_cons_zero, List.set_cons_succ]
  refine until_take (i := 3) (v := ?_) rfl (by kernel_rfl) (by kernel_rfl) (by kernel_rfl) rfl (fun _ _ _ h => h) (fun _ => hS.out) (Or.inl ⟨by rfl, ?_⟩) ?_
  rotate_left
  · (intro u _; go_simp; try with_reducible rfl)
  try simp only [Act.put, List.setIfInBounds_toArray, List.set_cons_zero, List.set_cons_succ]
  refine until_take (i := 6) (v := ?_) rfl (by kernel_rfl) (by kernel_rfl) (by kernel_rfl) rfl (fun _ _ _ h => h) (fun _ => hS.out) (Or.inl ⟨by rfl, ?_⟩) ?_
  rotate_left
  · (intro u _; go_simp; try with_reducible rfl)
  try simp only [Act.put, List.setIfInBounds_toArray, List.set_cons_zero, List.set_cons_succ]
  refine until_take (i := 7) (v := ?_) rfl (by kernel_rfl) (by kernel_rfl) (by kernel_rfl) rfl (fun _ _ _ h => h) (fun _ => hS.out) (Or.inl ⟨by rfl, ?_⟩) ?_
  rotate_left
  · (intro u _; go_simp; try with_reducible rfl)
  try simp only [Act.put, List.setIfInBounds_toArray, List.set_cons_zero, List.set_cons_succ]
  refine until_take (i := 8) (v := ?_) rfl (by kernel_rfl) (by kernel_rfl) (by kernel_rfl) rfl (fun _ _ _ h => h) (fun _ => hS.out) (Or.inl ⟨by rfl, ?_⟩) ?_
  rotate_left
  · (intro u _; go_simp; try with_reducible rfl)
  try simp only [Act.put, List.setIfInBounds_toArray, List.set_cons_zero, List.set_cons_succ]
  refine until_take (i := 10) (v := ?_) rfl (by kernel_rfl) (by kernel_rfl) (by kernel_rfl) rfl (fun _ _ _ h => h) (fun _ => hS.out) (Or.inl ⟨by rfl, ?_⟩) ?_
  rotate_left
  · (intro u _; go_simp; try with_reducible rfl)
  try simp only [Act.put, List.setIfInBounds_toArray, List.set_cons_zero, List.set_cons_succ]
  refine until_take (i := 11) (v := ?_) rfl (by kernel_rfl) (by kernel_rfl) (by kernel_rfl) rfl (fun _ _ _ h => h) (fun _ => hS.out) (Or.inl ⟨by rfl, ?_⟩) ?_
  rotate_left
  · (intro u _; go_simp; try with_reducible rfl)
  try simp only [Act.put, List.setIfInBounds_toArray, List.set_cons_zero, List.set_cons_succ]
  refine until_take (i := 12) (v := ?_) rfl (by kernel_rfl) (by kernel_rfl) (by kernel_rfl) rfl (fun _ _ _ h => h) (fun _ => hS.out) (Or.inl ⟨by rfl, ?_⟩) ?_
  rotate_left
  · (intro u _; go_simp; try with_reducible rfl)
  try simp only [Act.put, List.setIfInBounds_toArray, List.set_cons_zero, List.set_cons_succ]
  refine until_take (i := 13) (v := ?_) rfl (by kernel_rfl) (by kernel_rfl) (by kernel_rfl) rfl (fun _ _ _ h => h) (fun _ => hS.out) (Or.inl ⟨by rfl, ?_⟩) ?_
  rotate_left
  · (intro u _; go_simp; try with_reducible rfl)
  try simp only [Act.put, List.setIfInBounds_toArray, List.set_cons_zero, List.set_cons_succ]
  refine until_take (i := 16) (v := ?_) rfl (by kernel_rfl) (by kernel_rfl) (by kernel_rfl) rfl (fun _ _ _ h => h) (fun _ => hS.out) (Or.inl ⟨by rfl, ?_⟩) ?_
  rotate_left
  · (intro u _; go_simp; try with_reducible rfl)
  try simp only [Act.put, List.setIfInBounds_toArray, List.set_cons_zero, List.set_cons_succ]
  refine until_take (i := 17) (v := ?_) rfl (by kernel_rfl) (by kernel_rfl) (by kernel_rfl) rfl (fun _ _ _ h => h) (fun _ => hS.out) (Or.inl ⟨by rfl, ?_⟩) ?_
  rotate_left
  · (intro u _; go_simp; try with_reducible rfl)
  try simp only [Act.put, List.setIfInBounds_toArray, List.set_cons_zero, List.set_cons_succ]
  refine until_take (i := 18) (v := ?_) rfl (by kernel_rfl) (by kernel_rfl) (by kernel_rfl) rfl (fun _ _ _ h => h) (fun _ => hS.out) (Or.inl ⟨by rfl, ?_⟩) ?_
  rotate_left
  · (intro u _; go_simp; try with_reducible rfl)
  try simp only [Act.put, List.setIfInBounds_toArray, List.set_cons_zero, List.set_cons_succ]
  refine until_take (i := 21) (v := ?_) rfl (by kernel_rfl) (by kernel_rfl) (by kernel_rfl) rfl (fun _ _ _ h => h) (fun _ => hS.out) (Or.inl ⟨by rfl, ?_⟩) ?_
  rotate_left
  · (intro u _; go_simp; try with_reducible rfl)
  try simp only [Act.put, List.setIfInBounds_toArray, List.set_cons_zero, List.set_cons_succ]
  refine until_take (i := 22) (v := ?_) rfl (by kernel_rfl) (by kernel_rfl) (by kernel_rfl) rfl (fun _ _ _ h => h) (fun _ => hS.out) (Or.inl ⟨by rfl, ?_⟩) ?_
  rotate_left
  · (intro u _; go_simp; try with_reducible rfl)
  try simp only [Act.put, List.setIfInBounds_toArray, List.set_cons_zero, List.set_cons_succ]
  refine until_take (i := 23) (v := ?_) rfl (by kernel_rfl) (by kernel_rfl) (by kernel_rfl) rfl (fun _ _ _ h => h) (fun _ => hS.out) (Or.inl ⟨by rfl, ?_⟩) ?_
  rotate_left
  · (intro u _; go_simp; try with_reducible rfl)
  try simp only [Act.put, List.setIfInBounds_toArray, List.set_cons_zero, List.set_cons_succ]
  refine until_load (i := 4) (v := ?_) [5, 25] rfl (by kernel_rfl) (by kernel_rfl) (by kernel_rfl) (by kernel_rfl) (fun _ _ _ h => h) hS.out (Or.inl ⟨by rfl, ?_⟩) ?_
  rotate_left
  · (rintro u ⟨s0, s1, s32, s36⟩; go_simp; try with_reducible rfl)
  try simp only [Act.put, List.setIfInBounds_toArray, List.set_cons_zero, List.set_cons_succ]
  refine until_load (i := 14) (v := ?_) [15, 20, 25] rfl (by kernel_rfl) (by kernel_rfl) (by kernel_rfl) (by kernel_rfl) (fun _ _ _ h => h) hS.out (Or.inl ⟨by rfl, ?_⟩) ?_
  rotate_left
  · (rintro u ⟨s0, s1, s32, s36⟩; go_simp; try with_reducible rfl)
  try simp only [Act.put, List.setIfInBounds_toArray, List.set_cons_zero, List.set_cons_succ]
  refine until_load (i := 19) (v := ?_) [20, 25] rfl (by kernel_rfl) (by kernel_rfl) (by kernel_rfl) (by kernel_rfl) (fun _ _ _ h => h) hS.out (Or.inl ⟨by rfl, ?_⟩) ?_
  rotate_left
  · (rintro u ⟨s0, s1, s32, s36⟩; go_simp; try with_reducible rfl)
  try simp only [Act.put, List.setIfInBounds_toArray, List.set_cons_zero, List.set_cons_succ]
  refine until_load (i := 9) (v := ?_) [25] rfl (by kernel_rfl) (by kernel_rfl) (by kernel_rfl) (by kernel_rfl) (fun _ _ _ h => h) hS.out (Or.inl ⟨by rfl, ?_⟩) ?_
  rotate_left
  · (rintro u ⟨s0, s1, s32, s36⟩; go_simp; try with_reducible rfl)
  try simp only [Act.put, List.setIfInBounds_toArray, List.set_cons_zero, List.set_cons_succ]
  refine until_load (i := 24) (v := ?_) [25] rfl (by kernel_rfl) (by kernel_rfl) (by kernel_rfl) (by kernel_rfl) (fun _ _ _ h => h) hS.out (Or.inl ⟨by rfl, ?_⟩) ?_
  rotate_left
  · (rintro u ⟨s0, s1, s32, s36⟩; go_simp; try with_reducible rfl)
  try simp only [Act.put, List.setIfInBounds_toArray, List.set_cons_zero, List.set_cons_succ]
  refine until_ready (rs := [5]) (by kernel_rfl) (by simp) ?_
  refine AllUntil.cons rfl (fun K hK => ?_) AllUntil.nil
  go_simp
  refine (HY.out _).mono ?_
  rintro e w1 ⟨rfl, rfl⟩
  refine hK.out _ _ (fun _ => hS.out) ?_
  clear hK K
  try simp only [Act.put, List.setIfInBounds_toArray, List.set_cons_zero, List.set_cons_succ]
  refine until_ready (rs := [15]) (by kernel_rfl) (by simp) ?_
  refine AllUntil.cons rfl (fun K hK => ?_) AllUntil.nil
  go_simp
  refine (HZ.out _).mono ?_
  rintro e w1 ⟨rfl, rfl⟩
  refine hK.out _ _ (fun _ => hS.out) ?_
  clear hK K
  try simp only [Act.put, List.setIfInBounds_toArray, List.set_cons_zero, List.set_cons_succ]
  refine until_ready (rs := [20]) (by kernel_rfl) (by simp) ?_
  refine AllUntil.cons rfl (fun K hK => ?_) AllUntil.nil
  go_simp
  refine (HBY.out _ HD.out).mono ?_
  rintro e w1 ⟨rfl, rfl⟩
  refine hK.out _ _ (fun _ => hS.out) ?_
  clear hK K
  try simp only [Act.put, List.setIfInBounds_toArray, List.set_cons_zero, List.set_cons_succ]
  refine until_ready (rs := [25]) (by kernel_rfl) (by simp) ?_
  refine AllUntil.cons rfl (fun K hK => ?_) AllUntil.nil
  go_simp
  refine (HI.out _).mono ?_
  rintro e u ⟨rfl, hb1⟩
  have H1 := Lib.hid (CpAt.below HD.out hb1)
  have HB1 := Lib.hid hb1
  have c0 : u.cell? ⟨g, 0, none⟩ = some (.int .u8 c.r.a) := H1.out.blk.cell 0
  have f0 := H1.out.blk.frozen 0
  clear hb1
  refine hK.out _ _ (fun h => by simp at h) ?_
  clear hK K
  try simp only [Act.put, List.setIfInBounds_toArray, List.set_cons_zero, List.set_cons_succ]
  refine until_take (i := 26) (v := ?_) rfl (by kernel_rfl) (by kernel_rfl) (by kernel_rfl) rfl (fun _ _ _ h => h) (fun h => by simp at h) (Or.inl ⟨by rfl, ?_⟩) ?_
  rotate_left
  · (intro u _; go_simp; try with_reducible rfl)
  try simp only [Act.put, List.setIfInBounds_toArray, List.set_cons_zero, List.set_cons_succ]
  refine until_take (i := 27) (v := ?_) rfl (by kernel_rfl) (by kernel_rfl) (by kernel_rfl) rfl (fun _ _ _ h => h) (fun h => by simp at h) (Or.inl ⟨by rfl, ?_⟩) ?_
  rotate_left
  · (intro u _; go_simp; try with_reducible rfl)
  try simp only [Act.put, List.setIfInBounds_toArray, List.set_cons_zero, List.set_cons_succ]
  refine until_take (i := 28) (v := ?_) rfl (by kernel_rfl) (by kernel_rfl) (by kernel_rfl) rfl (fun _ _ _ h => h) (fun h => by simp at h) (Or.inl ⟨by rfl, ?_⟩) ?_
  rotate_left
  · (intro u _; go_simp; try with_reducible rfl)
  try simp only [Act.put, List.setIfInBounds_toArray, List.set_cons_zero, List.set_cons_succ]
  refine until_take (i := 29) (v := ?_) rfl (by kernel_rfl) (by kernel_rfl) (by kernel_rfl) rfl (fun _ _ _ h => h) (fun h => by simp at h) (Or.inl ⟨by rfl, ?_⟩) ?_
  rotate_left
  · (intro u _; go_simp; try with_reducible rfl)
  try simp only [Act.put, List.setIfInBounds_toArray, List.set_cons_zero, List.set_cons_succ]
  refine until_take (i := 30) (v := ?_) rfl (by kernel_rfl) (by kernel_rfl) (by kernel_rfl) rfl (fun _ _ _ h => h) (fun h => by simp at h) (Or.inl ⟨by rfl, ?_⟩) ?_
  rotate_left
  · (intro u _; go_simp; try with_reducible rfl)
  try simp only [Act.put, List.setIfInBounds_toArray, List.set_cons_zero, List.set_cons_succ]
  refine until_ready (rs := [31]) (by kernel_rfl) (by simp) ?_
  refine AllUntil.cons rfl (fun K hK => ?_) AllUntil.nil
  go_simp
  refine hK.out _ _ (fun h => by simp at h) ?_
  clear hK K
  try simp only [Act.put, List.setIfInBounds_toArray, List.set_cons_zero, List.set_cons_succ]
  refine until_ready (rs := [32]) (by kernel_rfl) (by simp) ?_
  refine AllUntil.cons rfl (fun K hK => ?_) AllUntil.nil
  go_simp
  refine hK.out _ _ (fun h => by simp at h) ?_
  clear hK K
  try simp only [Act.put, List.setIfInBounds_toArray, List.set_cons_zero, List.set_cons_succ]
  refine until_done (by kernel_rfl) ?_ _
  have HOO := Lib.hid (Only.set g 0 u (.int .u8 v))
  have H2 : Hid (CpAt (u.setCell ⟨g, 0, none⟩ (.int .u8 v)) g sv (c.withR { c.r with a := v })) := Lib.hid (H1.out.turn HOO.out (H1.out.blk.set_ 0 _) rfl)
  go_wp2_with (first
    | (go_at_call 69; refine (cp_set g sv _ _ _ H2.out).mono ?_; rintro e w3 ⟨rfl, h3⟩))
  exact bodyPost_end (results_none rfl _ _ _) rfl ⟨rfl, CpTo.step (.inl rfl) (Drew.ch ⟨1, rfl⟩) (CpTo.step (.inl rfl) (Below.ch HB1.out) (CpTo.step (.inl rfl) (HOO.out.ch.mono (fun _ _ hk => .inl hk)) h3))⟩
end Go.Proofs.YtbhpmnhlmeglcaaGreat
