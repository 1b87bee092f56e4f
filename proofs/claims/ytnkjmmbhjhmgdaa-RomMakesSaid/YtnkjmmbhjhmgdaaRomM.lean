/- A ROM that is put together: Build. -/
import Derived.Test.YtnkjmmbhjhmgdaaRomL
namespace Go.Proofs.Ytnkjmmbhjhmgdaa
set_option linter.unusedSimpArgs false
set_option linter.unusedVariables false
open Go.RowKit Go.Maps Go.Sort
theorem mayT_ok {t : TimL} {n : Int} (h : mayT t n = true) : TimOk t ∧ 1 ≤ n ∧ n ≤ 65534 := by
  unfold mayT at h
  have h := of_decide_eq_true h
  exact ⟨⟨by omega, by omega, by omega, by omega, by omega, by omega, by omega, by omega, by omega, by omega⟩, by omega, by omega⟩
set_option maxRecDepth 100000 in
set_option maxHeartbeats 16000000 in
theorem rom_Build (t : TimL) (n : Int) (w : World) : Calls Try.prog 5 #[timV t, .int .i64 n] w fun e w' =>
    ((mayT t n = false ∧ e = .returned (.tuple #[.slice none 0 0, .int .i64 5])) ∨ (mayT t n = true ∧ ∃ A c, e = .returned (.tuple #[.slice A 16384 c, .int .i64 0]))) ∧ Below w.heap.size w w' := by
  have hb := below_alloc1 w (.cells #[.int .i64 t.pilot, .int .i64 t.sync1, .int .i64 t.sync2, .int .i64 t.zero, .int .i64 t.one] 29)
  have g1 := Blk.new w 29 [.int .i64 t.pilot, .int .i64 t.sync1, .int .i64 t.sync2, .int .i64 t.zero, .int .i64 t.one]
  obtain ⟨wa, hwa⟩ : ∃ u, u = w.alloc (.cells #[.int .i64 t.pilot, .int .i64 t.sync1, .int .i64 t.sync2, .int .i64 t.zero, .int .i64 t.one] 29) := ⟨_, rfl⟩
  obtain ⟨gt, hgt⟩ : ∃ g, g = w.heap.size := ⟨_, rfl⟩
  have GTA : Hid (Blk wa gt 29 [.int .i64 t.pilot, .int .i64 t.sync1, .int .i64 t.sync2, .int .i64 t.zero, .int .i64 t.one]) := Lib.hid (by rw [hwa, hgt]; exact g1)
  have HBA : Hid (Below w.heap.size w wa) := Lib.hid (by rw [hwa]; exact hb)
  have HMAY := Lib.hid (rom_may t n wa)
  have HW := Lib.hid hwa
  have HGT := Lib.hid hgt
  have ta_0 : wa.cell? ⟨gt, 0, none⟩ = some (.int .i64 t.pilot) := GTA.out.cell 0
  have ta_1 : wa.cell? ⟨gt, 1, none⟩ = some (.int .i64 t.sync1) := GTA.out.cell 1
  have ta_2 : wa.cell? ⟨gt, 2, none⟩ = some (.int .i64 t.sync2) := GTA.out.cell 2
  have ta_3 : wa.cell? ⟨gt, 3, none⟩ = some (.int .i64 t.zero) := GTA.out.cell 3
  have ta_4 : wa.cell? ⟨gt, 4, none⟩ = some (.int .i64 t.one) := GTA.out.cell 4
  clear hb g1 hwa hgt
  cases hm : mayT t n with
  | false =>
    rw [hm] at HMAY
    clear hm
    unfold timV at HMAY ⊢
    go_enter Try.func5, Try.ntmps5
    go_upto_region 1 with fail
    rw [← HW.out, ← HGT.out]
    go_wp2_with (first
      | (go_at_call 7; refine HMAY.out.mono ?_; rintro e w1 ⟨rfl, hb1⟩; have HB1 := Lib.hid (HBA.out.trans (hb1.mono HBA.out.size)); clear hb1))
    go_ret2
    exact ⟨.inl ⟨by simp, rfl⟩, HB1.out⟩
  | true =>
    rw [hm] at HMAY
    obtain ⟨ht, n0', n1⟩ := mayT_ok hm
    have n0 : 0 ≤ n := by omega
    have HT := Lib.hid ht
    have HFIT0 := Lib.hid (rom_fits t n ht [] ⟨rfl, rfl, rfl⟩ rfl (by simp [sumL]))
    have HSUM : Hid (sumL (opsB t n) ≤ 16384) := Lib.hid HFIT0.out.1
    have HHERE : Hid (((opsB t n).foldl callF (newD 0)).here = sumL (opsB t n)) := Lib.hid (by have := HFIT0.out.2.1; rw [List.append_nil] at this; exact this)
    obtain ⟨L, hL⟩ : ∃ L : List OpL, L = [] := ⟨_, rfl⟩
    have HLE := Lib.hid hL
    have HL : Hid (L.length ≤ 0) := Lib.hid (by rw [hL]; exact Nat.le_refl _)
    clear hm n0' ht HFIT0 hL
    unfold timV at HMAY ⊢
    go_enter Try.func5, Try.ntmps5
    go_upto_region 1 with fail
    rw [← HW.out, ← HGT.out]
    clear HW HGT
    go_upto_region 3 with (first
      | (go_at_call 7; refine HMAY.out.mono ?_; rintro e w1 ⟨rfl, hb1⟩; have HB1 := Lib.hid (HBA.out.trans (hb1.mono HBA.out.size)); have GT1 := Lib.hid (GTA.out.below_ hb1); clear hb1))
    have HNEW := Lib.hid (asm_new 0 (by omega) (by omega) w1)
    go_upto_region 4 with (first
      | (go_at_call 10; refine HNEW.out.mono ?_; rintro e w2 ⟨P, M, rfl, hS, hb2⟩; have HSN := Lib.hid hS; have HB2 := Lib.hid (HB1.out.trans (hb2.mono HB1.out.size)); have GT2 := Lib.hid (GT1.out.below_ hb2); clear hS hb2))
    clear HNEW HMAY
    obtain ⟨B, hB⟩ : ∃ B, B = w1.heap.size := ⟨_, rfl⟩
    rw [← hB] at HSN
    have HBB : Hid (w.heap.size ≤ B) := Lib.hid (by rw [hB]; exact HB1.out.size)
    have hb3 := below_alloc1 w2 (.cells #[.pointer (some ⟨P, 0, none⟩)] 39)
    have g3 := Blk.new w2 39 [.pointer (some ⟨P, 0, none⟩)]
    obtain ⟨w0, hw0⟩ : ∃ u, u = w2.alloc (.cells #[.pointer (some ⟨P, 0, none⟩)] 39) := ⟨_, rfl⟩
    obtain ⟨gp, hgp⟩ : ∃ g, g = w2.heap.size := ⟨_, rfl⟩
    rw [← hw0, ← hgp]
    have GP0 : Hid (Blk w0 gp 39 [.pointer (some ⟨P, 0, none⟩)]) := Lib.hid (by rw [hw0, hgp]; exact g3)
    have GT0 : Hid (Blk w0 gt 29 [.int .i64 t.pilot, .int .i64 t.sync1, .int .i64 t.sync2, .int .i64 t.zero, .int .i64 t.one]) := Lib.hid (by rw [hw0]; exact GT2.out.below_ hb3)
    have HBX : Hid (Below w.heap.size w w0) := Lib.hid (by rw [hw0]; exact HB2.out.trans (hb3.mono HB2.out.size))
    have HS0 : Hid (RomS B P M L w0) := Lib.hid (by rw [hw0, HLE.out]; exact ⟨HSN.out.below_ hb3, AsmI.new (by omega) (by omega)⟩)
    have HF0 : Hid (Frm B w0 w0) := Lib.hid (Frm.refl _ _)
    have p0 : w0.cell? ⟨gp, 0, none⟩ = some (.pointer (some ⟨P, 0, none⟩)) := GP0.out.cell 0
    have t0_0 : w0.cell? ⟨gt, 0, none⟩ = some (.int .i64 t.pilot) := GT0.out.cell 0
    have t0_1 : w0.cell? ⟨gt, 1, none⟩ = some (.int .i64 t.sync1) := GT0.out.cell 1
    have t0_2 : w0.cell? ⟨gt, 2, none⟩ = some (.int .i64 t.sync2) := GT0.out.cell 2
    have t0_3 : w0.cell? ⟨gt, 3, none⟩ = some (.int .i64 t.zero) := GT0.out.cell 3
    have t0_4 : w0.cell? ⟨gt, 4, none⟩ = some (.int .i64 t.one) := GT0.out.cell 4
    clear ta_0 ta_1 ta_2 ta_3 ta_4 hb3 g3 hw0 hgp hB HSN HB1 HB2 GT1 GT2 GTA HBA
    have hc0 := Lib.hid (rom_bytes HS0.out #[.int .u8 243] 1 rfl (by kernel_rfl) (by omega))
    go_upto_region 5 with (first
    | (go_at_call 11; refine hc0.out.mono ?_; rintro e w1 ⟨rfl, h, hb⟩; have HS1 := Lib.hid h; have HF1 := Lib.hid (HF0.out.trans hb); have GP1 := Lib.hid (GP0.out.frm hb (by decide) (by decide) (by decide)); have p1 : w1.cell? ⟨gp, 0, none⟩ = some (.pointer (some ⟨P, 0, none⟩)) := GP1.out.cell 0; have GT1 := Lib.hid (GT0.out.frm hb (by decide) (by decide) (by decide)); have t1_0 : w1.cell? ⟨gt, 0, none⟩ = some (.int .i64 t.pilot) := GT1.out.cell 0; have t1_1 : w1.cell? ⟨gt, 1, none⟩ = some (.int .i64 t.sync1) := GT1.out.cell 1; have t1_2 : w1.cell? ⟨gt, 2, none⟩ = some (.int .i64 t.sync2) := GT1.out.cell 2; have t1_3 : w1.cell? ⟨gt, 3, none⟩ = some (.int .i64 t.zero) := GT1.out.cell 3; have t1_4 : w1.cell? ⟨gt, 4, none⟩ = some (.int .i64 t.one) := GT1.out.cell 4; clear h hb p0 t0_0 t0_1 t0_2 t0_3 t0_4 hc0))
    have hc1 := Lib.hid (rom_to HS1.out ⟨#[115, 116, 111, 112]⟩ (by decide) (by have := HL.out; simp [len_turn, len_pulse, len_savers, len_load, len_listen]; omega) #[.int .u8 195] 1 rfl (by kernel_rfl) (by omega))
    go_upto_region 6 with (first
    | (go_at_call 12; refine hc1.out.mono ?_; rintro e w2 ⟨rfl, h, hb⟩; have HS2 := Lib.hid h; have HF2 := Lib.hid (HF1.out.trans hb); have GP2 := Lib.hid (GP1.out.frm hb (by decide) (by decide) (by decide)); have p2 : w2.cell? ⟨gp, 0, none⟩ = some (.pointer (some ⟨P, 0, none⟩)) := GP2.out.cell 0; have GT2 := Lib.hid (GT1.out.frm hb (by decide) (by decide) (by decide)); have t2_0 : w2.cell? ⟨gt, 0, none⟩ = some (.int .i64 t.pilot) := GT2.out.cell 0; have t2_1 : w2.cell? ⟨gt, 1, none⟩ = some (.int .i64 t.sync1) := GT2.out.cell 1; have t2_2 : w2.cell? ⟨gt, 2, none⟩ = some (.int .i64 t.sync2) := GT2.out.cell 2; have t2_3 : w2.cell? ⟨gt, 3, none⟩ = some (.int .i64 t.zero) := GT2.out.cell 3; have t2_4 : w2.cell? ⟨gt, 4, none⟩ = some (.int .i64 t.one) := GT2.out.cell 4; clear h hb p1 t1_0 t1_1 t1_2 t1_3 t1_4 hc1))
    have hc2 := Lib.hid (rp_fill HS2.out 52 56 (by rw [HLE.out]; kernel_rfl) (by omega))
    go_upto_region 7 with (first
    | (go_at_call 13; refine hc2.out.mono ?_; rintro e w3 ⟨rfl, h, hb⟩; have HS3 := Lib.hid h; have HF3 := Lib.hid (HF2.out.trans hb); have GP3 := Lib.hid (GP2.out.frm hb (by decide) (by decide) (by decide)); have p3 : w3.cell? ⟨gp, 0, none⟩ = some (.pointer (some ⟨P, 0, none⟩)) := GP3.out.cell 0; have GT3 := Lib.hid (GT2.out.frm hb (by decide) (by decide) (by decide)); have t3_0 : w3.cell? ⟨gt, 0, none⟩ = some (.int .i64 t.pilot) := GT3.out.cell 0; have t3_1 : w3.cell? ⟨gt, 1, none⟩ = some (.int .i64 t.sync1) := GT3.out.cell 1; have t3_2 : w3.cell? ⟨gt, 2, none⟩ = some (.int .i64 t.sync2) := GT3.out.cell 2; have t3_3 : w3.cell? ⟨gt, 3, none⟩ = some (.int .i64 t.zero) := GT3.out.cell 3; have t3_4 : w3.cell? ⟨gt, 4, none⟩ = some (.int .i64 t.one) := GT3.out.cell 4; clear h hb p2 t2_0 t2_1 t2_2 t2_3 t2_4 hc2))
    have hc3 := Lib.hid (rom_bytes HS3.out #[.int .u8 251, .int .u8 237, .int .u8 77] 3 rfl (by kernel_rfl) (by omega))
    go_upto_region 8 with (first
    | (go_at_call 11; refine hc3.out.mono ?_; rintro e w4 ⟨rfl, h, hb⟩; have HS4 := Lib.hid h; have HF4 := Lib.hid (HF3.out.trans hb); have GP4 := Lib.hid (GP3.out.frm hb (by decide) (by decide) (by decide)); have p4 : w4.cell? ⟨gp, 0, none⟩ = some (.pointer (some ⟨P, 0, none⟩)) := GP4.out.cell 0; have GT4 := Lib.hid (GT3.out.frm hb (by decide) (by decide) (by decide)); have t4_0 : w4.cell? ⟨gt, 0, none⟩ = some (.int .i64 t.pilot) := GT4.out.cell 0; have t4_1 : w4.cell? ⟨gt, 1, none⟩ = some (.int .i64 t.sync1) := GT4.out.cell 1; have t4_2 : w4.cell? ⟨gt, 2, none⟩ = some (.int .i64 t.sync2) := GT4.out.cell 2; have t4_3 : w4.cell? ⟨gt, 3, none⟩ = some (.int .i64 t.zero) := GT4.out.cell 3; have t4_4 : w4.cell? ⟨gt, 4, none⟩ = some (.int .i64 t.one) := GT4.out.cell 4; clear h hb p3 t3_0 t3_1 t3_2 t3_3 t3_4 hc3))
    have hc4 := Lib.hid (rp_fill HS4.out 43 102 (by rw [HLE.out]; kernel_rfl) (by omega))
    go_upto_region 9 with (first
    | (go_at_call 13; refine hc4.out.mono ?_; rintro e w5 ⟨rfl, h, hb⟩; have HS5 := Lib.hid h; have HF5 := Lib.hid (HF4.out.trans hb); have GP5 := Lib.hid (GP4.out.frm hb (by decide) (by decide) (by decide)); have p5 : w5.cell? ⟨gp, 0, none⟩ = some (.pointer (some ⟨P, 0, none⟩)) := GP5.out.cell 0; have GT5 := Lib.hid (GT4.out.frm hb (by decide) (by decide) (by decide)); have t5_0 : w5.cell? ⟨gt, 0, none⟩ = some (.int .i64 t.pilot) := GT5.out.cell 0; have t5_1 : w5.cell? ⟨gt, 1, none⟩ = some (.int .i64 t.sync1) := GT5.out.cell 1; have t5_2 : w5.cell? ⟨gt, 2, none⟩ = some (.int .i64 t.sync2) := GT5.out.cell 2; have t5_3 : w5.cell? ⟨gt, 3, none⟩ = some (.int .i64 t.zero) := GT5.out.cell 3; have t5_4 : w5.cell? ⟨gt, 4, none⟩ = some (.int .i64 t.one) := GT5.out.cell 4; clear h hb p4 t4_0 t4_1 t4_2 t4_3 t4_4 hc4))
    have hc5 := Lib.hid (rom_bytes HS5.out #[.int .u8 237, .int .u8 69] 2 rfl (by kernel_rfl) (by omega))
    go_upto_region 10 with (first
    | (go_at_call 11; refine hc5.out.mono ?_; rintro e w6 ⟨rfl, h, hb⟩; have HS6 := Lib.hid h; have HF6 := Lib.hid (HF5.out.trans hb); have GP6 := Lib.hid (GP5.out.frm hb (by decide) (by decide) (by decide)); have p6 : w6.cell? ⟨gp, 0, none⟩ = some (.pointer (some ⟨P, 0, none⟩)) := GP6.out.cell 0; have GT6 := Lib.hid (GT5.out.frm hb (by decide) (by decide) (by decide)); have t6_0 : w6.cell? ⟨gt, 0, none⟩ = some (.int .i64 t.pilot) := GT6.out.cell 0; have t6_1 : w6.cell? ⟨gt, 1, none⟩ = some (.int .i64 t.sync1) := GT6.out.cell 1; have t6_2 : w6.cell? ⟨gt, 2, none⟩ = some (.int .i64 t.sync2) := GT6.out.cell 2; have t6_3 : w6.cell? ⟨gt, 3, none⟩ = some (.int .i64 t.zero) := GT6.out.cell 3; have t6_4 : w6.cell? ⟨gt, 4, none⟩ = some (.int .i64 t.one) := GT6.out.cell 4; clear h hb p5 t5_0 t5_1 t5_2 t5_3 t5_4 hc5))
    have hc6 := Lib.hid (rp_fill HS6.out 152 256 (by rw [HLE.out]; kernel_rfl) (by omega))
    go_upto_region 11 with (first
    | (go_at_call 13; refine hc6.out.mono ?_; rintro e w7 ⟨rfl, h, hb⟩; have HS7 := Lib.hid h; have HF7 := Lib.hid (HF6.out.trans hb); have GP7 := Lib.hid (GP6.out.frm hb (by decide) (by decide) (by decide)); have p7 : w7.cell? ⟨gp, 0, none⟩ = some (.pointer (some ⟨P, 0, none⟩)) := GP7.out.cell 0; have GT7 := Lib.hid (GT6.out.frm hb (by decide) (by decide) (by decide)); have t7_0 : w7.cell? ⟨gt, 0, none⟩ = some (.int .i64 t.pilot) := GT7.out.cell 0; have t7_1 : w7.cell? ⟨gt, 1, none⟩ = some (.int .i64 t.sync1) := GT7.out.cell 1; have t7_2 : w7.cell? ⟨gt, 2, none⟩ = some (.int .i64 t.sync2) := GT7.out.cell 2; have t7_3 : w7.cell? ⟨gt, 3, none⟩ = some (.int .i64 t.zero) := GT7.out.cell 3; have t7_4 : w7.cell? ⟨gt, 4, none⟩ = some (.int .i64 t.one) := GT7.out.cell 4; clear h hb p6 t6_0 t6_1 t6_2 t6_3 t6_4 hc6))
    have hc7 := Lib.hid (rom_to HS7.out ⟨#[115, 97, 118, 101]⟩ (by decide) (by have := HL.out; simp [len_turn, len_pulse, len_savers, len_load, len_listen]; omega) #[.int .u8 195] 1 rfl (by kernel_rfl) (by omega))
    go_upto_region 12 with (first
    | (go_at_call 12; refine hc7.out.mono ?_; rintro e w8 ⟨rfl, h, hb⟩; have HS8 := Lib.hid h; have HF8 := Lib.hid (HF7.out.trans hb); have GP8 := Lib.hid (GP7.out.frm hb (by decide) (by decide) (by decide)); have p8 : w8.cell? ⟨gp, 0, none⟩ = some (.pointer (some ⟨P, 0, none⟩)) := GP8.out.cell 0; have GT8 := Lib.hid (GT7.out.frm hb (by decide) (by decide) (by decide)); have t8_0 : w8.cell? ⟨gt, 0, none⟩ = some (.int .i64 t.pilot) := GT8.out.cell 0; have t8_1 : w8.cell? ⟨gt, 1, none⟩ = some (.int .i64 t.sync1) := GT8.out.cell 1; have t8_2 : w8.cell? ⟨gt, 2, none⟩ = some (.int .i64 t.sync2) := GT8.out.cell 2; have t8_3 : w8.cell? ⟨gt, 3, none⟩ = some (.int .i64 t.zero) := GT8.out.cell 3; have t8_4 : w8.cell? ⟨gt, 4, none⟩ = some (.int .i64 t.one) := GT8.out.cell 4; clear h hb p7 t7_0 t7_1 t7_2 t7_3 t7_4 hc7))
    have hc8 := Lib.hid (rom_to HS8.out ⟨#[108, 111, 97, 100]⟩ (by decide) (by have := HL.out; simp [len_turn, len_pulse, len_savers, len_load, len_listen]; omega) #[.int .u8 195] 1 rfl (by kernel_rfl) (by omega))
    go_upto_region 13 with (first
    | (go_at_call 12; refine hc8.out.mono ?_; rintro e w9 ⟨rfl, h, hb⟩; have HS9 := Lib.hid h; have HF9 := Lib.hid (HF8.out.trans hb); have GP9 := Lib.hid (GP8.out.frm hb (by decide) (by decide) (by decide)); have p9 : w9.cell? ⟨gp, 0, none⟩ = some (.pointer (some ⟨P, 0, none⟩)) := GP9.out.cell 0; have GT9 := Lib.hid (GT8.out.frm hb (by decide) (by decide) (by decide)); have t9_0 : w9.cell? ⟨gt, 0, none⟩ = some (.int .i64 t.pilot) := GT9.out.cell 0; have t9_1 : w9.cell? ⟨gt, 1, none⟩ = some (.int .i64 t.sync1) := GT9.out.cell 1; have t9_2 : w9.cell? ⟨gt, 2, none⟩ = some (.int .i64 t.sync2) := GT9.out.cell 2; have t9_3 : w9.cell? ⟨gt, 3, none⟩ = some (.int .i64 t.zero) := GT9.out.cell 3; have t9_4 : w9.cell? ⟨gt, 4, none⟩ = some (.int .i64 t.one) := GT9.out.cell 4; clear h hb p8 t8_0 t8_1 t8_2 t8_3 t8_4 hc8))
    have hc9 := Lib.hid (rom_to HS9.out ⟨#[116, 117, 114, 98, 111]⟩ (by decide) (by have := HL.out; simp [len_turn, len_pulse, len_savers, len_load, len_listen]; omega) #[.int .u8 195] 1 rfl (by kernel_rfl) (by omega))
    go_upto_region 14 with (first
    | (go_at_call 12; refine hc9.out.mono ?_; rintro e w10 ⟨rfl, h, hb⟩; have HS10 := Lib.hid h; have HF10 := Lib.hid (HF9.out.trans hb); have GP10 := Lib.hid (GP9.out.frm hb (by decide) (by decide) (by decide)); have p10 : w10.cell? ⟨gp, 0, none⟩ = some (.pointer (some ⟨P, 0, none⟩)) := GP10.out.cell 0; have GT10 := Lib.hid (GT9.out.frm hb (by decide) (by decide) (by decide)); have t10_0 : w10.cell? ⟨gt, 0, none⟩ = some (.int .i64 t.pilot) := GT10.out.cell 0; have t10_1 : w10.cell? ⟨gt, 1, none⟩ = some (.int .i64 t.sync1) := GT10.out.cell 1; have t10_2 : w10.cell? ⟨gt, 2, none⟩ = some (.int .i64 t.sync2) := GT10.out.cell 2; have t10_3 : w10.cell? ⟨gt, 3, none⟩ = some (.int .i64 t.zero) := GT10.out.cell 3; have t10_4 : w10.cell? ⟨gt, 4, none⟩ = some (.int .i64 t.one) := GT10.out.cell 4; clear h hb p9 t9_0 t9_1 t9_2 t9_3 t9_4 hc9))
    have hc10 := Lib.hid (rom_mark HS10.out ⟨#[115, 116, 111, 112]⟩ (by decide) (by have := HL.out; simp [len_turn, len_pulse, len_savers, len_load, len_listen]; omega))
    go_upto_region 15 with (first
    | (go_at_call 14; refine hc10.out.mono ?_; rintro e w11 ⟨rfl, h, hb⟩; have HS11 := Lib.hid h; have HF11 := Lib.hid (HF10.out.trans hb); have GP11 := Lib.hid (GP10.out.frm hb (by decide) (by decide) (by decide)); have p11 : w11.cell? ⟨gp, 0, none⟩ = some (.pointer (some ⟨P, 0, none⟩)) := GP11.out.cell 0; have GT11 := Lib.hid (GT10.out.frm hb (by decide) (by decide) (by decide)); have t11_0 : w11.cell? ⟨gt, 0, none⟩ = some (.int .i64 t.pilot) := GT11.out.cell 0; have t11_1 : w11.cell? ⟨gt, 1, none⟩ = some (.int .i64 t.sync1) := GT11.out.cell 1; have t11_2 : w11.cell? ⟨gt, 2, none⟩ = some (.int .i64 t.sync2) := GT11.out.cell 2; have t11_3 : w11.cell? ⟨gt, 3, none⟩ = some (.int .i64 t.zero) := GT11.out.cell 3; have t11_4 : w11.cell? ⟨gt, 4, none⟩ = some (.int .i64 t.one) := GT11.out.cell 4; clear h hb p10 t10_0 t10_1 t10_2 t10_3 t10_4 hc10))
    have hc11 := Lib.hid (rom_bytes HS11.out #[.int .u8 118] 1 rfl (by kernel_rfl) (by omega))
    go_upto_region 16 with (first
    | (go_at_call 11; refine hc11.out.mono ?_; rintro e w12 ⟨rfl, h, hb⟩; have HS12 := Lib.hid h; have HF12 := Lib.hid (HF11.out.trans hb); have GP12 := Lib.hid (GP11.out.frm hb (by decide) (by decide) (by decide)); have p12 : w12.cell? ⟨gp, 0, none⟩ = some (.pointer (some ⟨P, 0, none⟩)) := GP12.out.cell 0; have GT12 := Lib.hid (GT11.out.frm hb (by decide) (by decide) (by decide)); have t12_0 : w12.cell? ⟨gt, 0, none⟩ = some (.int .i64 t.pilot) := GT12.out.cell 0; have t12_1 : w12.cell? ⟨gt, 1, none⟩ = some (.int .i64 t.sync1) := GT12.out.cell 1; have t12_2 : w12.cell? ⟨gt, 2, none⟩ = some (.int .i64 t.sync2) := GT12.out.cell 2; have t12_3 : w12.cell? ⟨gt, 3, none⟩ = some (.int .i64 t.zero) := GT12.out.cell 3; have t12_4 : w12.cell? ⟨gt, 4, none⟩ = some (.int .i64 t.one) := GT12.out.cell 4; clear h hb p11 t11_0 t11_1 t11_2 t11_3 t11_4 hc11))
    have hc12 := Lib.hid (rom_near HS12.out ⟨#[115, 116, 111, 112]⟩ (by decide) (by have := HL.out; simp [len_turn, len_pulse, len_savers, len_load, len_listen]; omega) 24 (by omega) (by omega))
    go_upto_region 17 with (first
    | (go_at_call 15; refine hc12.out.mono ?_; rintro e w13 ⟨rfl, h, hb⟩; have HS13 := Lib.hid h; have HF13 := Lib.hid (HF12.out.trans hb); have GP13 := Lib.hid (GP12.out.frm hb (by decide) (by decide) (by decide)); have p13 : w13.cell? ⟨gp, 0, none⟩ = some (.pointer (some ⟨P, 0, none⟩)) := GP13.out.cell 0; have GT13 := Lib.hid (GT12.out.frm hb (by decide) (by decide) (by decide)); have t13_0 : w13.cell? ⟨gt, 0, none⟩ = some (.int .i64 t.pilot) := GT13.out.cell 0; have t13_1 : w13.cell? ⟨gt, 1, none⟩ = some (.int .i64 t.sync1) := GT13.out.cell 1; have t13_2 : w13.cell? ⟨gt, 2, none⟩ = some (.int .i64 t.sync2) := GT13.out.cell 2; have t13_3 : w13.cell? ⟨gt, 3, none⟩ = some (.int .i64 t.zero) := GT13.out.cell 3; have t13_4 : w13.cell? ⟨gt, 4, none⟩ = some (.int .i64 t.one) := GT13.out.cell 4; clear h hb p12 t12_0 t12_1 t12_2 t12_3 t12_4 hc12))
    have hc13 := Lib.hid (rp_savers HS13.out (by have := HL.out; simp [len_turn, len_pulse, len_savers, len_load, len_listen]; omega) t n HT.out n0 n1)
    go_upto_region 18 with (first
    | (go_at_call 16; refine hc13.out.mono ?_; rintro e w14 ⟨rfl, h, hb⟩; have HS14 := Lib.hid h; have HF14 := Lib.hid (HF13.out.trans hb); have GP14 := Lib.hid (GP13.out.frm hb (by decide) (by decide) (by decide)); have p14 : w14.cell? ⟨gp, 0, none⟩ = some (.pointer (some ⟨P, 0, none⟩)) := GP14.out.cell 0; have GT14 := Lib.hid (GT13.out.frm hb (by decide) (by decide) (by decide)); have t14_0 : w14.cell? ⟨gt, 0, none⟩ = some (.int .i64 t.pilot) := GT14.out.cell 0; have t14_1 : w14.cell? ⟨gt, 1, none⟩ = some (.int .i64 t.sync1) := GT14.out.cell 1; have t14_2 : w14.cell? ⟨gt, 2, none⟩ = some (.int .i64 t.sync2) := GT14.out.cell 2; have t14_3 : w14.cell? ⟨gt, 3, none⟩ = some (.int .i64 t.zero) := GT14.out.cell 3; have t14_4 : w14.cell? ⟨gt, 4, none⟩ = some (.int .i64 t.one) := GT14.out.cell 4; clear h hb p13 t13_0 t13_1 t13_2 t13_3 t13_4 hc13))
    have hc14 := Lib.hid (rp_load HS14.out (by have := HL.out; simp [len_turn, len_pulse, len_savers, len_load, len_listen]; omega))
    go_upto_region 19 with (first
    | (go_at_call 17; refine hc14.out.mono ?_; rintro e w15 ⟨rfl, h, hb⟩; have HS15 := Lib.hid h; have HF15 := Lib.hid (HF14.out.trans hb); have GP15 := Lib.hid (GP14.out.frm hb (by decide) (by decide) (by decide)); have p15 : w15.cell? ⟨gp, 0, none⟩ = some (.pointer (some ⟨P, 0, none⟩)) := GP15.out.cell 0; have GT15 := Lib.hid (GT14.out.frm hb (by decide) (by decide) (by decide)); have t15_0 : w15.cell? ⟨gt, 0, none⟩ = some (.int .i64 t.pilot) := GT15.out.cell 0; have t15_1 : w15.cell? ⟨gt, 1, none⟩ = some (.int .i64 t.sync1) := GT15.out.cell 1; have t15_2 : w15.cell? ⟨gt, 2, none⟩ = some (.int .i64 t.sync2) := GT15.out.cell 2; have t15_3 : w15.cell? ⟨gt, 3, none⟩ = some (.int .i64 t.zero) := GT15.out.cell 3; have t15_4 : w15.cell? ⟨gt, 4, none⟩ = some (.int .i64 t.one) := GT15.out.cell 4; clear h hb p14 t14_0 t14_1 t14_2 t14_3 t14_4 hc14))
    have hc15 := Lib.hid (rp_listen HS15.out (by have := HL.out; simp [len_turn, len_pulse, len_savers, len_load, len_listen]; omega))
    go_upto_region 20 with (first
    | (go_at_call 18; refine hc15.out.mono ?_; rintro e w16 ⟨rfl, h, hb⟩; have HS16 := Lib.hid h; have HF16 := Lib.hid (HF15.out.trans hb); have GP16 := Lib.hid (GP15.out.frm hb (by decide) (by decide) (by decide)); have p16 : w16.cell? ⟨gp, 0, none⟩ = some (.pointer (some ⟨P, 0, none⟩)) := GP16.out.cell 0; have GT16 := Lib.hid (GT15.out.frm hb (by decide) (by decide) (by decide)); have t16_0 : w16.cell? ⟨gt, 0, none⟩ = some (.int .i64 t.pilot) := GT16.out.cell 0; have t16_1 : w16.cell? ⟨gt, 1, none⟩ = some (.int .i64 t.sync1) := GT16.out.cell 1; have t16_2 : w16.cell? ⟨gt, 2, none⟩ = some (.int .i64 t.sync2) := GT16.out.cell 2; have t16_3 : w16.cell? ⟨gt, 3, none⟩ = some (.int .i64 t.zero) := GT16.out.cell 3; have t16_4 : w16.cell? ⟨gt, 4, none⟩ = some (.int .i64 t.one) := GT16.out.cell 4; clear h hb p15 t15_0 t15_1 t15_2 t15_3 t15_4 hc15))
    have HL16 : Hid (L ++ [opBytes (lz #[.int .u8 243])] ++ [opTo ⟨#[115, 116, 111, 112]⟩ (lz #[.int .u8 195])] ++ [opBytes (List.replicate 52 0)] ++ [opBytes (lz #[.int .u8 251, .int .u8 237, .int .u8 77])] ++ [opBytes (List.replicate 43 0)] ++ [opBytes (lz #[.int .u8 237, .int .u8 69])] ++ [opBytes (List.replicate 152 0)] ++ [opTo ⟨#[115, 97, 118, 101]⟩ (lz #[.int .u8 195])] ++ [opTo ⟨#[108, 111, 97, 100]⟩ (lz #[.int .u8 195])] ++ [opTo ⟨#[116, 117, 114, 98, 111]⟩ (lz #[.int .u8 195])] ++ [opMark ⟨#[115, 116, 111, 112]⟩] ++ [opBytes (lz #[.int .u8 118])] ++ [opNear ⟨#[115, 116, 111, 112]⟩ 24] ++ p_savers t n ++ p_load ++ p_listen = opsB t n) := Lib.hid (by rw [HLE.out]; unfold opsB opsA opsC; simp only [List.append_assoc, List.nil_append]; rfl)
    have hc16 := Lib.hid (rp_fill HS16.out (16384 - sumL (opsB t n)) 16384 (by rw [HL16.out, HHERE.out]; have := HSUM.out; omega) (by omega))
    go_upto_region 21 with (first
    | (go_at_call 13; refine hc16.out.mono ?_; rintro e w17 ⟨rfl, h, hb⟩; have HS17 := Lib.hid h; have HF17 := Lib.hid (HF16.out.trans hb); have GP17 := Lib.hid (GP16.out.frm hb (by decide) (by decide) (by decide)); have p17 : w17.cell? ⟨gp, 0, none⟩ = some (.pointer (some ⟨P, 0, none⟩)) := GP17.out.cell 0; have GT17 := Lib.hid (GT16.out.frm hb (by decide) (by decide) (by decide)); have t17_0 : w17.cell? ⟨gt, 0, none⟩ = some (.int .i64 t.pilot) := GT17.out.cell 0; have t17_1 : w17.cell? ⟨gt, 1, none⟩ = some (.int .i64 t.sync1) := GT17.out.cell 1; have t17_2 : w17.cell? ⟨gt, 2, none⟩ = some (.int .i64 t.sync2) := GT17.out.cell 2; have t17_3 : w17.cell? ⟨gt, 3, none⟩ = some (.int .i64 t.zero) := GT17.out.cell 3; have t17_4 : w17.cell? ⟨gt, 4, none⟩ = some (.int .i64 t.one) := GT17.out.cell 4; clear h hb p16 t16_0 t16_1 t16_2 t16_3 t16_4 hc16))
    have hdn : Calls Try.prog 19 #[.pointer (some ⟨P, 0, none⟩)] w17 fun e w' => (∃ A c, e = .returned (.tuple #[.slice A 16384 c, .int .i64 0])) ∧ Below w17.heap.size w17 w' := by
      refine (asm_Done _ _ _ _ _ _ _ HS17.out.s HS17.out.i.ok (by have := HL.out; simp [len_turn, len_pulse, len_savers, len_load, len_listen]; omega) HS17.out.i.td).mono ?_
      rintro e w' hdn
      have hf := rom_fits t n HT.out [opBytes (List.replicate (16384 - sumL (opsB t n)) 0)] ⟨rfl, rfl, rfl⟩ rfl (by simp [sumL, lenO, bytesL, opBytes]; omega)
      rw [HL16.out] at hdn
      have hsum : sumL (opsB t n ++ [opBytes (List.replicate (16384 - sumL (opsB t n)) 0)]) = 16384 := by
        rw [sumL_append]
        have := HSUM.out
        have e : sumL [opBytes (List.replicate (16384 - sumL (opsB t n)) 0)] = 16384 - sumL (opsB t n) := by simp [sumL, lenO, bytesL, opBytes]
        omega
      rw [hsum] at hf
      obtain ⟨⟨h1, h2⟩ | ⟨h1, A, nn, c, rfl, h2, h3, _⟩, hbD⟩ := hdn
      · exact absurd hf.2.2.1 h1
      · rw [hf.2.2.2] at h3
        subst h3
        exact ⟨⟨A, c, rfl⟩, hbD⟩
    have HDN := Lib.hid hdn
    clear hdn
    go_wp2_with (first
      | (go_at_call 19; refine HDN.out.mono ?_; rintro e wz ⟨⟨A, c, rfl⟩, hbz⟩; have HBZ := Lib.hid hbz; clear hbz))
    go_ret2
    have hfz : Below B w0 w17 := HF17.out
    exact ⟨.inr ⟨by simp, A, c, rfl⟩, (HBX.out.trans (hfz.mono HBB.out)).trans (HBZ.out.mono (by have := HBX.out.size; have := hfz.size; omega))⟩
end Go.Proofs.Ytnkjmmbhjhmgdaa
