/- A ROM that is put together: its parts. -/
import Derived.Test.YtnkjmmbhjhmgdaaRomD
import Derived.Test.YtnkjmmbhjhmgdaaRomG
namespace Go.Proofs.Ytnkjmmbhjhmgdaa
set_option linter.unusedSimpArgs false
set_option linter.unusedVariables false
open Go.RowKit Go.Maps Go.Sort
def p_savers (t : TimL) (n : Int) : List OpL := [opMark ⟨#[115, 97, 118, 101]⟩] ++ p_count (8063) ++ [opBytes [203, 127, 40, 4]] ++ p_count (3223) ++ p_save (⟨#[115]⟩) tStd ++ [opMark ⟨#[116, 117, 114, 98, 111]⟩] ++ p_count (n) ++ p_save (⟨#[116]⟩) t
set_option maxRecDepth 100000 in
set_option maxHeartbeats 8000000 in
theorem rp_savers {B P M : Nat} {L : List OpL} {w : World} (h : RomS B P M L w) (hL : L.length ≤ 600) (t : TimL) (n : Int) (ht : TimOk t) (h0 : 0 ≤ n) (h1 : n ≤ 65534) :
    Calls Try.prog 16 #[progV P, timV t, .int .i64 n] w (RomR B P M (L ++ p_savers t n) w) := by
  have HL := Lib.hid hL
  have hb : Below w.heap.size w ((w.alloc (.cells #[.pointer (some ⟨P, 0, none⟩)] 39)).alloc (.cells #[.int .i64 t.pilot, .int .i64 t.sync1, .int .i64 t.sync2, .int .i64 t.zero, .int .i64 t.one] 29)) := ((Below.refl _ w).alloc (Nat.le_refl _) _).alloc (by simp) _
  have g0 := (Blk.new w 39 [.pointer (some ⟨P, 0, none⟩)]).alloc (.cells #[.int .i64 t.pilot, .int .i64 t.sync1, .int .i64 t.sync2, .int .i64 t.zero, .int .i64 t.one] 29)
  have g1 := Blk.new (w.alloc (.cells #[.pointer (some ⟨P, 0, none⟩)] 39)) 29 [.int .i64 t.pilot, .int .i64 t.sync1, .int .i64 t.sync2, .int .i64 t.zero, .int .i64 t.one]
  rw [World.size_alloc] at g1
  obtain ⟨w0, hw0⟩ : ∃ u, u = (w.alloc (.cells #[.pointer (some ⟨P, 0, none⟩)] 39)).alloc (.cells #[.int .i64 t.pilot, .int .i64 t.sync1, .int .i64 t.sync2, .int .i64 t.zero, .int .i64 t.one] 29) := ⟨_, rfl⟩
  obtain ⟨gp, hgp⟩ : ∃ g, g = w.heap.size := ⟨_, rfl⟩
  obtain ⟨gt, hgt⟩ : ∃ g, g = w.heap.size + 1 := ⟨_, rfl⟩
  have GT0 : Hid (Blk w0 gt 29 [.int .i64 t.pilot, .int .i64 t.sync1, .int .i64 t.sync2, .int .i64 t.zero, .int .i64 t.one]) := Lib.hid (by rw [hw0, hgt]; exact g1)
  have t0_0 : w0.cell? ⟨gt, 0, none⟩ = some (.int .i64 t.pilot) := GT0.out.cell 0
  have t0_1 : w0.cell? ⟨gt, 1, none⟩ = some (.int .i64 t.sync1) := GT0.out.cell 1
  have t0_2 : w0.cell? ⟨gt, 2, none⟩ = some (.int .i64 t.sync2) := GT0.out.cell 2
  have t0_3 : w0.cell? ⟨gt, 3, none⟩ = some (.int .i64 t.zero) := GT0.out.cell 3
  have t0_4 : w0.cell? ⟨gt, 4, none⟩ = some (.int .i64 t.one) := GT0.out.cell 4
  have GP0 : Hid (Blk w0 gp 39 [.pointer (some ⟨P, 0, none⟩)]) := Lib.hid (by rw [hw0, hgp]; exact g0)
  have HS0 : Hid (RomS B P M L w0) := Lib.hid (by rw [hw0]; exact h.below_ hb)
  have HF0 : Hid (Frm B w w0) := Lib.hid (by rw [hw0]; exact h.s.toB hb)
  have p0 : w0.cell? ⟨gp, 0, none⟩ = some (.pointer (some ⟨P, 0, none⟩)) := GP0.out.cell 0
  have HW := Lib.hid hw0
  have HGP := Lib.hid hgp
  have HGT := Lib.hid hgt
  clear h hb hw0 hgp g0 hL g1 hgt
  have HT := Lib.hid ht
  have bp0 := ht.p0
  have bp1 := ht.p1
  have ba0 := ht.a0
  have ba1 := ht.a1
  have bb0 := ht.b0
  have bb1 := ht.b1
  have bz0 := ht.z0
  have bz1 := ht.z1
  have bo0 := ht.o0
  have bo1 := ht.o1
  clear ht
  unfold progV timV
  go_enter Try.func16, Try.ntmps16
  go_upto_region 1 with fail
  rw [← HW.out, ← HGT.out, ← HGP.out]
  clear HW HGP HGT
  have hc0 := Lib.hid (rom_mark HS0.out ⟨#[115, 97, 118, 101]⟩ (by decide) (by have := HL.out; simp [len_count, len_save]; omega))
  go_upto_region 2 with (first
    | (go_at_call 14; refine hc0.out.mono ?_; rintro e w1 ⟨rfl, h, hb⟩; have HS1 := Lib.hid h; have HF1 := Lib.hid (HF0.out.trans hb); have GP1 := Lib.hid (GP0.out.frm hb (by decide) (by decide) (by decide)); have p1 : w1.cell? ⟨gp, 0, none⟩ = some (.pointer (some ⟨P, 0, none⟩)) := GP1.out.cell 0; have GT1 := Lib.hid (GT0.out.frm hb (by decide) (by decide) (by decide)); have t1_0 : w1.cell? ⟨gt, 0, none⟩ = some (.int .i64 t.pilot) := GT1.out.cell 0; have t1_1 : w1.cell? ⟨gt, 1, none⟩ = some (.int .i64 t.sync1) := GT1.out.cell 1; have t1_2 : w1.cell? ⟨gt, 2, none⟩ = some (.int .i64 t.sync2) := GT1.out.cell 2; have t1_3 : w1.cell? ⟨gt, 3, none⟩ = some (.int .i64 t.zero) := GT1.out.cell 3; have t1_4 : w1.cell? ⟨gt, 4, none⟩ = some (.int .i64 t.one) := GT1.out.cell 4; clear h hb p0 t0_0 t0_1 t0_2 t0_3 t0_4 hc0))
  have hc1 := Lib.hid (rp_count HS1.out (by have := HL.out; simp [len_count, len_save]; omega) (8063) (by omega) (by omega))
  go_upto_region 3 with (first
    | (go_at_call 25; refine hc1.out.mono ?_; rintro e w2 ⟨rfl, h, hb⟩; have HS2 := Lib.hid h; have HF2 := Lib.hid (HF1.out.trans hb); have GP2 := Lib.hid (GP1.out.frm hb (by decide) (by decide) (by decide)); have p2 : w2.cell? ⟨gp, 0, none⟩ = some (.pointer (some ⟨P, 0, none⟩)) := GP2.out.cell 0; have GT2 := Lib.hid (GT1.out.frm hb (by decide) (by decide) (by decide)); have t2_0 : w2.cell? ⟨gt, 0, none⟩ = some (.int .i64 t.pilot) := GT2.out.cell 0; have t2_1 : w2.cell? ⟨gt, 1, none⟩ = some (.int .i64 t.sync1) := GT2.out.cell 1; have t2_2 : w2.cell? ⟨gt, 2, none⟩ = some (.int .i64 t.sync2) := GT2.out.cell 2; have t2_3 : w2.cell? ⟨gt, 3, none⟩ = some (.int .i64 t.zero) := GT2.out.cell 3; have t2_4 : w2.cell? ⟨gt, 4, none⟩ = some (.int .i64 t.one) := GT2.out.cell 4; clear h hb p1 t1_0 t1_1 t1_2 t1_3 t1_4 hc1))
  have hc2 := Lib.hid (rom_bytes HS2.out #[.int .u8 203, .int .u8 127, .int .u8 40, .int .u8 4] 4 rfl (by kernel_rfl) (by omega))
  go_upto_region 4 with (first
    | (go_at_call 11; refine hc2.out.mono ?_; rintro e w3 ⟨rfl, h, hb⟩; have HS3 := Lib.hid h; have HF3 := Lib.hid (HF2.out.trans hb); have GP3 := Lib.hid (GP2.out.frm hb (by decide) (by decide) (by decide)); have p3 : w3.cell? ⟨gp, 0, none⟩ = some (.pointer (some ⟨P, 0, none⟩)) := GP3.out.cell 0; have GT3 := Lib.hid (GT2.out.frm hb (by decide) (by decide) (by decide)); have t3_0 : w3.cell? ⟨gt, 0, none⟩ = some (.int .i64 t.pilot) := GT3.out.cell 0; have t3_1 : w3.cell? ⟨gt, 1, none⟩ = some (.int .i64 t.sync1) := GT3.out.cell 1; have t3_2 : w3.cell? ⟨gt, 2, none⟩ = some (.int .i64 t.sync2) := GT3.out.cell 2; have t3_3 : w3.cell? ⟨gt, 3, none⟩ = some (.int .i64 t.zero) := GT3.out.cell 3; have t3_4 : w3.cell? ⟨gt, 4, none⟩ = some (.int .i64 t.one) := GT3.out.cell 4; clear h hb p2 t2_0 t2_1 t2_2 t2_3 t2_4 hc2))
  have hc3 := Lib.hid (rp_count HS3.out (by have := HL.out; simp [len_count, len_save]; omega) (3223) (by omega) (by omega))
  go_upto_region 5 with (first
    | (go_at_call 25; refine hc3.out.mono ?_; rintro e w4 ⟨rfl, h, hb⟩; have HS4 := Lib.hid h; have HF4 := Lib.hid (HF3.out.trans hb); have GP4 := Lib.hid (GP3.out.frm hb (by decide) (by decide) (by decide)); have p4 : w4.cell? ⟨gp, 0, none⟩ = some (.pointer (some ⟨P, 0, none⟩)) := GP4.out.cell 0; have GT4 := Lib.hid (GT3.out.frm hb (by decide) (by decide) (by decide)); have t4_0 : w4.cell? ⟨gt, 0, none⟩ = some (.int .i64 t.pilot) := GT4.out.cell 0; have t4_1 : w4.cell? ⟨gt, 1, none⟩ = some (.int .i64 t.sync1) := GT4.out.cell 1; have t4_2 : w4.cell? ⟨gt, 2, none⟩ = some (.int .i64 t.sync2) := GT4.out.cell 2; have t4_3 : w4.cell? ⟨gt, 3, none⟩ = some (.int .i64 t.zero) := GT4.out.cell 3; have t4_4 : w4.cell? ⟨gt, 4, none⟩ = some (.int .i64 t.one) := GT4.out.cell 4; clear h hb p3 t3_0 t3_1 t3_2 t3_3 t3_4 hc3))
  refine until_start 2 (fun u : World => u.cell? ⟨gp, 0, none⟩ = some (.pointer (some ⟨P, 0, none⟩))) (by kernel_rfl) ?_
  have hS : Hid ((fun u : World => u.cell? ⟨gp, 0, none⟩ = some (.pointer (some ⟨P, 0, none⟩))) w4.drew) := p4
  refine until_load (i := 0) (v := ?_) [2] rfl (by kernel_rfl) (by kernel_rfl) (by kernel_rfl) (by kernel_rfl) (fun _ _ _ h => h) hS.out (Or.inl ⟨by rfl, ?_⟩) ?_
  rotate_left
  · (intro u s1; go_simp; try with_reducible rfl)
  try simp only [Act.put, List.setIfInBounds_toArray, List.set_cons_zero, List.set_cons_succ]
  refine until_ready (rs := [1]) (by kernel_rfl) (by simp) ?_
  refine AllUntil.cons rfl (fun K hK => ?_) AllUntil.nil
  go_simp
  refine (norm_standard w4.drew).mono ?_
  rintro e wS ⟨rfl, hbS⟩
  have hbS' : Below w4.heap.size w4 wS := ((Below.refl _ w4).drew).trans hbS
  have HSS := Lib.hid (HS4.out.below_ hbS')
  have HFS := Lib.hid (HF4.out.trans (HS4.out.s.toB hbS'))
  have GPS := Lib.hid (GP4.out.below_ hbS')
  have GTS := Lib.hid (GT4.out.below_ hbS')
  refine hK.out _ _ (fun _ => GPS.out.cell 0) ?_
  clear hK K hbS hbS' hS
  try simp only [Act.put, List.setIfInBounds_toArray, List.set_cons_zero, List.set_cons_succ]
  refine until_ready (rs := [2]) (by kernel_rfl) (by simp) ?_
  refine AllUntil.cons rfl (fun K hK => ?_) AllUntil.nil
  have hcS := Lib.hid (rp_save HSS.out (by have := HL.out; simp [len_count, len_save]; omega) (⟨#[115]⟩) tStd (by decide) tStd_ok)
  go_simp
  refine hcS.out.mono ?_
  rintro e w5 ⟨rfl, h, hb⟩
  have HS5 := Lib.hid h
  have HF5 := Lib.hid (HFS.out.trans hb)
  have GP5 := Lib.hid (GPS.out.frm hb (by decide) (by decide) (by decide))
  have p5 : w5.cell? ⟨gp, 0, none⟩ = some (.pointer (some ⟨P, 0, none⟩)) := GP5.out.cell 0
  have GT5 := Lib.hid (GTS.out.frm hb (by decide) (by decide) (by decide))
  have t5_0 : w5.cell? ⟨gt, 0, none⟩ = some (.int .i64 t.pilot) := GT5.out.cell 0
  have t5_1 : w5.cell? ⟨gt, 1, none⟩ = some (.int .i64 t.sync1) := GT5.out.cell 1
  have t5_2 : w5.cell? ⟨gt, 2, none⟩ = some (.int .i64 t.sync2) := GT5.out.cell 2
  have t5_3 : w5.cell? ⟨gt, 3, none⟩ = some (.int .i64 t.zero) := GT5.out.cell 3
  have t5_4 : w5.cell? ⟨gt, 4, none⟩ = some (.int .i64 t.one) := GT5.out.cell 4
  clear h hb p4 t4_0 t4_1 t4_2 t4_3 t4_4
  refine hK.out _ _ (fun h => by simp at h) ?_
  clear hK K
  try simp only [Act.put, List.setIfInBounds_toArray, List.set_cons_zero, List.set_cons_succ]
  refine until_done (by kernel_rfl) ?_ _
  go_upto_region 6 with fail
  have hc5 := Lib.hid (rom_mark HS5.out ⟨#[116, 117, 114, 98, 111]⟩ (by decide) (by have := HL.out; simp [len_count, len_save]; omega))
  go_upto_region 7 with (first
    | (go_at_call 14; refine hc5.out.mono ?_; rintro e w6 ⟨rfl, h, hb⟩; have HS6 := Lib.hid h; have HF6 := Lib.hid (HF5.out.trans hb); have GP6 := Lib.hid (GP5.out.frm hb (by decide) (by decide) (by decide)); have p6 : w6.cell? ⟨gp, 0, none⟩ = some (.pointer (some ⟨P, 0, none⟩)) := GP6.out.cell 0; have GT6 := Lib.hid (GT5.out.frm hb (by decide) (by decide) (by decide)); have t6_0 : w6.cell? ⟨gt, 0, none⟩ = some (.int .i64 t.pilot) := GT6.out.cell 0; have t6_1 : w6.cell? ⟨gt, 1, none⟩ = some (.int .i64 t.sync1) := GT6.out.cell 1; have t6_2 : w6.cell? ⟨gt, 2, none⟩ = some (.int .i64 t.sync2) := GT6.out.cell 2; have t6_3 : w6.cell? ⟨gt, 3, none⟩ = some (.int .i64 t.zero) := GT6.out.cell 3; have t6_4 : w6.cell? ⟨gt, 4, none⟩ = some (.int .i64 t.one) := GT6.out.cell 4; clear h hb p5 t5_0 t5_1 t5_2 t5_3 t5_4 hc5))
  have hc6 := Lib.hid (rp_count HS6.out (by have := HL.out; simp [len_count, len_save]; omega) (n) (by omega) (by omega))
  go_upto_region 8 with (first
    | (go_at_call 25; refine hc6.out.mono ?_; rintro e w7 ⟨rfl, h, hb⟩; have HS7 := Lib.hid h; have HF7 := Lib.hid (HF6.out.trans hb); have GP7 := Lib.hid (GP6.out.frm hb (by decide) (by decide) (by decide)); have p7 : w7.cell? ⟨gp, 0, none⟩ = some (.pointer (some ⟨P, 0, none⟩)) := GP7.out.cell 0; have GT7 := Lib.hid (GT6.out.frm hb (by decide) (by decide) (by decide)); have t7_0 : w7.cell? ⟨gt, 0, none⟩ = some (.int .i64 t.pilot) := GT7.out.cell 0; have t7_1 : w7.cell? ⟨gt, 1, none⟩ = some (.int .i64 t.sync1) := GT7.out.cell 1; have t7_2 : w7.cell? ⟨gt, 2, none⟩ = some (.int .i64 t.sync2) := GT7.out.cell 2; have t7_3 : w7.cell? ⟨gt, 3, none⟩ = some (.int .i64 t.zero) := GT7.out.cell 3; have t7_4 : w7.cell? ⟨gt, 4, none⟩ = some (.int .i64 t.one) := GT7.out.cell 4; clear h hb p6 t6_0 t6_1 t6_2 t6_3 t6_4 hc6))
  have hc7 := Lib.hid (rp_save HS7.out (by have := HL.out; simp [len_count, len_save]; omega) (⟨#[116]⟩) t (by decide) HT.out)
  go_wp2_with (first
    | (go_at_call 26; refine hc7.out.mono ?_; rintro e w8 ⟨rfl, h, hb⟩; have HS8 := Lib.hid h; have HF8 := Lib.hid (HF7.out.trans hb); have GP8 := Lib.hid (GP7.out.frm hb (by decide) (by decide) (by decide)); have p8 : w8.cell? ⟨gp, 0, none⟩ = some (.pointer (some ⟨P, 0, none⟩)) := GP8.out.cell 0; have GT8 := Lib.hid (GT7.out.frm hb (by decide) (by decide) (by decide)); have t8_0 : w8.cell? ⟨gt, 0, none⟩ = some (.int .i64 t.pilot) := GT8.out.cell 0; have t8_1 : w8.cell? ⟨gt, 1, none⟩ = some (.int .i64 t.sync1) := GT8.out.cell 1; have t8_2 : w8.cell? ⟨gt, 2, none⟩ = some (.int .i64 t.sync2) := GT8.out.cell 2; have t8_3 : w8.cell? ⟨gt, 3, none⟩ = some (.int .i64 t.zero) := GT8.out.cell 3; have t8_4 : w8.cell? ⟨gt, 4, none⟩ = some (.int .i64 t.one) := GT8.out.cell 4; clear h hb p7 t7_0 t7_1 t7_2 t7_3 t7_4 hc7))
  go_end0
  have e : L ++ p_savers t n = L ++ [opMark ⟨#[115, 97, 118, 101]⟩] ++ p_count (8063) ++ [opBytes (lz #[.int .u8 203, .int .u8 127, .int .u8 40, .int .u8 4])] ++ p_count (3223) ++ p_save (⟨#[115]⟩) tStd ++ [opMark ⟨#[116, 117, 114, 98, 111]⟩] ++ p_count (n) ++ p_save (⟨#[116]⟩) t := by simp [p_savers, lz, numV]
  rw [e]
  exact ⟨rfl, HS8.out, HF8.out⟩
theorem len_savers (t : TimL) (n : Int) : (p_savers t n).length = 130 := by simp [p_savers, len_count, len_count, len_count, len_save, len_save]
end Go.Proofs.Ytnkjmmbhjhmgdaa
