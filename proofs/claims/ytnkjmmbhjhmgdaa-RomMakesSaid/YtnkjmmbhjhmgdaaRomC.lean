/- A ROM that is put together: its parts. -/
import Derived.Test.YtnkjmmbhjhmgdaaRomB
namespace Go.Proofs.Ytnkjmmbhjhmgdaa
set_option linter.unusedSimpArgs false
set_option linter.unusedVariables false
open Go.RowKit Go.Maps Go.Sort
theorem sz_cat {s : ByteArray} {x : ByteArray} (h : s.size ≤ 10) (hx : x.size ≤ 100) : (s ++ x).size ≤ maxLen := by
  rw [ByteArray.size_append]
  unfold maxLen
  omega
def p_pilot (s : ByteArray) (t : TimL) : List OpL := [opBytes [175, 211, 254]] ++ [opBytes [62, 8, 211, 254]] ++ [opTo (s ++ ⟨#[112, 105, 108, 111, 116]⟩) [195]] ++ [opMark (s ++ ⟨#[112, 105, 108, 111, 116]⟩)] ++ [opBytes [79, 253, 43]] ++ [opBytes [253, 124, 253, 181]] ++ [opBytes [121]] ++ [opTo (s ++ ⟨#[115, 121, 110, 99]⟩) [202]] ++ p_pulse (t.pilot - 72) ++ [opTo (s ++ ⟨#[112, 105, 108, 111, 116]⟩) [195]] ++ [opMark (s ++ ⟨#[115, 121, 110, 99]⟩)] ++ p_pulse (t.sync1 - 72) ++ p_pulse (t.sync2 - 18) ++ [opBytes [14, 8]] ++ [opDelay (125)] ++ [opTo (s ++ ⟨#[98, 105, 116]⟩) [195]]
set_option maxRecDepth 100000 in
set_option maxHeartbeats 8000000 in
theorem rp_pilot {B P M : Nat} {L : List OpL} {w : World} (h : RomS B P M L w) (hL : L.length ≤ 800) (s : ByteArray) (t : TimL) (hs : s.size ≤ 10) (ht : TimOk t) :
    Calls Try.prog 31 #[progV P, .string s, timV t] w (RomR B P M (L ++ p_pilot s t) w) := by
  have HL := Lib.hid hL
  have hb : Below w.heap.size w ((w.alloc (.cells #[.pointer (some ⟨P, 0, none⟩)] 39)).alloc (.cells #[.int .i64 t.pilot, .int .i64 t.sync1, .int .i64 t.sync2, .int .i64 t.zero, .int .i64 t.one] 29)) := ((Below.refl _ w).alloc (Nat.le_refl _) _).alloc (by simp) _
  have g0 := (Blk.new w 39 [.pointer (some ⟨P, 0, none⟩)]).alloc (.cells #[.int .i64 t.pilot, .int .i64 t.sync1, .int .i64 t.sync2, .int .i64 t.zero, .int .i64 t.one] 29)
  have g1 := Blk.new (w.alloc (.cells #[.pointer (some ⟨P, 0, none⟩)] 39)) 29 [.int .i64 t.pilot, .int .i64 t.sync1, .int .i64 t.sync2, .int .i64 t.zero, .int .i64 t.one]
  rw [World.size_alloc] at g1
  obtain ⟨w0, hw0⟩ : ∃ u, u = (w.alloc (.cells #[.pointer (some ⟨P, 0, none⟩)] 39)).alloc (.cells #[.int .i64 t.pilot, .int .i64 t.sync1, .int .i64 t.sync2, .int .i64 t.zero, .int .i64 t.one] 29) := ⟨_, rfl⟩
  obtain ⟨gp, hgp⟩ : ∃ g, g = w.heap.size := ⟨_, rfl⟩
  obtain ⟨gt, hgt⟩ : ∃ g, g = w.heap.size + 1 := ⟨_, rfl⟩
  have GT0 : Hid (Blk w0 gt 29 [.int .i64 t.pilot, .int .i64 t.sync1, .int .i64 t.sync2, .int .i64 t.zero, .int .i64 t.one]) := Lib.hid (by rw [hw0, hgt]; exact g1)
  have t0_0 : w0.cell? ⟨gt, 0, none⟩ = some (.int .i64 t.pilot) := GT0.out.cell 0
  have t0_1 : w0.cell? ⟨gt, 1, none⟩ = some (.int .i64 t.sync1) := GT0.out.cell 1
  have t0_2 : w0.cell? ⟨gt, 2, none⟩ = some (.int .i64 t.sync2) := GT0.out.cell 2
  have t0_3 : w0.cell? ⟨gt, 3, none⟩ = some (.int .i64 t.zero) := GT0.out.cell 3
  have t0_4 : w0.cell? ⟨gt, 4, none⟩ = some (.int .i64 t.one) := GT0.out.cell 4
  have GP0 : Hid (Blk w0 gp 39 [.pointer (some ⟨P, 0, none⟩)]) := Lib.hid (by rw [hw0, hgp]; exact g0)
  have HS0 : Hid (RomS B P M L w0) := Lib.hid (by rw [hw0]; exact h.below_ hb)
  have HF0 : Hid (Frm B w w0) := Lib.hid (by rw [hw0]; exact h.s.toB hb)
  have p0 : w0.cell? ⟨gp, 0, none⟩ = some (.pointer (some ⟨P, 0, none⟩)) := GP0.out.cell 0
  have HW := Lib.hid hw0
  have HGP := Lib.hid hgp
  have HGT := Lib.hid hgt
  clear h hb hw0 hgp g0 hL g1 hgt
  have HSZ := Lib.hid hs
  have HT := Lib.hid ht
  have bp0 := ht.p0
  have bp1 := ht.p1
  have ba0 := ht.a0
  have ba1 := ht.a1
  have bb0 := ht.b0
  have bb1 := ht.b1
  have bz0 := ht.z0
  have bz1 := ht.z1
  have bo0 := ht.o0
  have bo1 := ht.o1
  clear ht
  unfold progV timV
  go_enter Try.func31, Try.ntmps31
  go_upto_region 1 with fail
  rw [← HW.out, ← HGT.out, ← HGP.out]
  clear HW HGP HGT
  have hc0 := Lib.hid (rom_bytes HS0.out #[.int .u8 175, .int .u8 211, .int .u8 254] 3 rfl (by kernel_rfl) (by omega))
  go_upto_region 2 with (first
    | (go_at_call 11; refine hc0.out.mono ?_; rintro e w1 ⟨rfl, h, hb⟩; have HS1 := Lib.hid h; have HF1 := Lib.hid (HF0.out.trans hb); have GP1 := Lib.hid (GP0.out.frm hb (by decide) (by decide) (by decide)); have p1 : w1.cell? ⟨gp, 0, none⟩ = some (.pointer (some ⟨P, 0, none⟩)) := GP1.out.cell 0; have GT1 := Lib.hid (GT0.out.frm hb (by decide) (by decide) (by decide)); have t1_0 : w1.cell? ⟨gt, 0, none⟩ = some (.int .i64 t.pilot) := GT1.out.cell 0; have t1_1 : w1.cell? ⟨gt, 1, none⟩ = some (.int .i64 t.sync1) := GT1.out.cell 1; have t1_2 : w1.cell? ⟨gt, 2, none⟩ = some (.int .i64 t.sync2) := GT1.out.cell 2; have t1_3 : w1.cell? ⟨gt, 3, none⟩ = some (.int .i64 t.zero) := GT1.out.cell 3; have t1_4 : w1.cell? ⟨gt, 4, none⟩ = some (.int .i64 t.one) := GT1.out.cell 4; clear h hb p0 t0_0 t0_1 t0_2 t0_3 t0_4 hc0))
  have hc1 := Lib.hid (rom_bytes HS1.out #[.int .u8 62, .int .u8 8, .int .u8 211, .int .u8 254] 4 rfl (by kernel_rfl) (by omega))
  go_upto_region 3 with (first
    | (go_at_call 11; refine hc1.out.mono ?_; rintro e w2 ⟨rfl, h, hb⟩; have HS2 := Lib.hid h; have HF2 := Lib.hid (HF1.out.trans hb); have GP2 := Lib.hid (GP1.out.frm hb (by decide) (by decide) (by decide)); have p2 : w2.cell? ⟨gp, 0, none⟩ = some (.pointer (some ⟨P, 0, none⟩)) := GP2.out.cell 0; have GT2 := Lib.hid (GT1.out.frm hb (by decide) (by decide) (by decide)); have t2_0 : w2.cell? ⟨gt, 0, none⟩ = some (.int .i64 t.pilot) := GT2.out.cell 0; have t2_1 : w2.cell? ⟨gt, 1, none⟩ = some (.int .i64 t.sync1) := GT2.out.cell 1; have t2_2 : w2.cell? ⟨gt, 2, none⟩ = some (.int .i64 t.sync2) := GT2.out.cell 2; have t2_3 : w2.cell? ⟨gt, 3, none⟩ = some (.int .i64 t.zero) := GT2.out.cell 3; have t2_4 : w2.cell? ⟨gt, 4, none⟩ = some (.int .i64 t.one) := GT2.out.cell 4; clear h hb p1 t1_0 t1_1 t1_2 t1_3 t1_4 hc1))
  have hc2 := Lib.hid (rom_to HS2.out (s ++ ⟨#[112, 105, 108, 111, 116]⟩) (sz_cat HSZ.out (by decide)) (by have := HL.out; simp [len_turn, len_pulse]; omega) #[.int .u8 195] 1 rfl (by kernel_rfl) (by omega))
  go_upto_region 4 with (first
    | (go_at_call 12; refine hc2.out.mono ?_; rintro e w3 ⟨rfl, h, hb⟩; have HS3 := Lib.hid h; have HF3 := Lib.hid (HF2.out.trans hb); have GP3 := Lib.hid (GP2.out.frm hb (by decide) (by decide) (by decide)); have p3 : w3.cell? ⟨gp, 0, none⟩ = some (.pointer (some ⟨P, 0, none⟩)) := GP3.out.cell 0; have GT3 := Lib.hid (GT2.out.frm hb (by decide) (by decide) (by decide)); have t3_0 : w3.cell? ⟨gt, 0, none⟩ = some (.int .i64 t.pilot) := GT3.out.cell 0; have t3_1 : w3.cell? ⟨gt, 1, none⟩ = some (.int .i64 t.sync1) := GT3.out.cell 1; have t3_2 : w3.cell? ⟨gt, 2, none⟩ = some (.int .i64 t.sync2) := GT3.out.cell 2; have t3_3 : w3.cell? ⟨gt, 3, none⟩ = some (.int .i64 t.zero) := GT3.out.cell 3; have t3_4 : w3.cell? ⟨gt, 4, none⟩ = some (.int .i64 t.one) := GT3.out.cell 4; clear h hb p2 t2_0 t2_1 t2_2 t2_3 t2_4 hc2))
  have hc3 := Lib.hid (rom_mark HS3.out (s ++ ⟨#[112, 105, 108, 111, 116]⟩) (sz_cat HSZ.out (by decide)) (by have := HL.out; simp [len_turn, len_pulse]; omega))
  go_upto_region 5 with (first
    | (go_at_call 14; refine hc3.out.mono ?_; rintro e w4 ⟨rfl, h, hb⟩; have HS4 := Lib.hid h; have HF4 := Lib.hid (HF3.out.trans hb); have GP4 := Lib.hid (GP3.out.frm hb (by decide) (by decide) (by decide)); have p4 : w4.cell? ⟨gp, 0, none⟩ = some (.pointer (some ⟨P, 0, none⟩)) := GP4.out.cell 0; have GT4 := Lib.hid (GT3.out.frm hb (by decide) (by decide) (by decide)); have t4_0 : w4.cell? ⟨gt, 0, none⟩ = some (.int .i64 t.pilot) := GT4.out.cell 0; have t4_1 : w4.cell? ⟨gt, 1, none⟩ = some (.int .i64 t.sync1) := GT4.out.cell 1; have t4_2 : w4.cell? ⟨gt, 2, none⟩ = some (.int .i64 t.sync2) := GT4.out.cell 2; have t4_3 : w4.cell? ⟨gt, 3, none⟩ = some (.int .i64 t.zero) := GT4.out.cell 3; have t4_4 : w4.cell? ⟨gt, 4, none⟩ = some (.int .i64 t.one) := GT4.out.cell 4; clear h hb p3 t3_0 t3_1 t3_2 t3_3 t3_4 hc3))
  have hc4 := Lib.hid (rom_bytes HS4.out #[.int .u8 79, .int .u8 253, .int .u8 43] 3 rfl (by kernel_rfl) (by omega))
  go_upto_region 6 with (first
    | (go_at_call 11; refine hc4.out.mono ?_; rintro e w5 ⟨rfl, h, hb⟩; have HS5 := Lib.hid h; have HF5 := Lib.hid (HF4.out.trans hb); have GP5 := Lib.hid (GP4.out.frm hb (by decide) (by decide) (by decide)); have p5 : w5.cell? ⟨gp, 0, none⟩ = some (.pointer (some ⟨P, 0, none⟩)) := GP5.out.cell 0; have GT5 := Lib.hid (GT4.out.frm hb (by decide) (by decide) (by decide)); have t5_0 : w5.cell? ⟨gt, 0, none⟩ = some (.int .i64 t.pilot) := GT5.out.cell 0; have t5_1 : w5.cell? ⟨gt, 1, none⟩ = some (.int .i64 t.sync1) := GT5.out.cell 1; have t5_2 : w5.cell? ⟨gt, 2, none⟩ = some (.int .i64 t.sync2) := GT5.out.cell 2; have t5_3 : w5.cell? ⟨gt, 3, none⟩ = some (.int .i64 t.zero) := GT5.out.cell 3; have t5_4 : w5.cell? ⟨gt, 4, none⟩ = some (.int .i64 t.one) := GT5.out.cell 4; clear h hb p4 t4_0 t4_1 t4_2 t4_3 t4_4 hc4))
  have hc5 := Lib.hid (rom_bytes HS5.out #[.int .u8 253, .int .u8 124, .int .u8 253, .int .u8 181] 4 rfl (by kernel_rfl) (by omega))
  go_upto_region 7 with (first
    | (go_at_call 11; refine hc5.out.mono ?_; rintro e w6 ⟨rfl, h, hb⟩; have HS6 := Lib.hid h; have HF6 := Lib.hid (HF5.out.trans hb); have GP6 := Lib.hid (GP5.out.frm hb (by decide) (by decide) (by decide)); have p6 : w6.cell? ⟨gp, 0, none⟩ = some (.pointer (some ⟨P, 0, none⟩)) := GP6.out.cell 0; have GT6 := Lib.hid (GT5.out.frm hb (by decide) (by decide) (by decide)); have t6_0 : w6.cell? ⟨gt, 0, none⟩ = some (.int .i64 t.pilot) := GT6.out.cell 0; have t6_1 : w6.cell? ⟨gt, 1, none⟩ = some (.int .i64 t.sync1) := GT6.out.cell 1; have t6_2 : w6.cell? ⟨gt, 2, none⟩ = some (.int .i64 t.sync2) := GT6.out.cell 2; have t6_3 : w6.cell? ⟨gt, 3, none⟩ = some (.int .i64 t.zero) := GT6.out.cell 3; have t6_4 : w6.cell? ⟨gt, 4, none⟩ = some (.int .i64 t.one) := GT6.out.cell 4; clear h hb p5 t5_0 t5_1 t5_2 t5_3 t5_4 hc5))
  have hc6 := Lib.hid (rom_bytes HS6.out #[.int .u8 121] 1 rfl (by kernel_rfl) (by omega))
  go_upto_region 8 with (first
    | (go_at_call 11; refine hc6.out.mono ?_; rintro e w7 ⟨rfl, h, hb⟩; have HS7 := Lib.hid h; have HF7 := Lib.hid (HF6.out.trans hb); have GP7 := Lib.hid (GP6.out.frm hb (by decide) (by decide) (by decide)); have p7 : w7.cell? ⟨gp, 0, none⟩ = some (.pointer (some ⟨P, 0, none⟩)) := GP7.out.cell 0; have GT7 := Lib.hid (GT6.out.frm hb (by decide) (by decide) (by decide)); have t7_0 : w7.cell? ⟨gt, 0, none⟩ = some (.int .i64 t.pilot) := GT7.out.cell 0; have t7_1 : w7.cell? ⟨gt, 1, none⟩ = some (.int .i64 t.sync1) := GT7.out.cell 1; have t7_2 : w7.cell? ⟨gt, 2, none⟩ = some (.int .i64 t.sync2) := GT7.out.cell 2; have t7_3 : w7.cell? ⟨gt, 3, none⟩ = some (.int .i64 t.zero) := GT7.out.cell 3; have t7_4 : w7.cell? ⟨gt, 4, none⟩ = some (.int .i64 t.one) := GT7.out.cell 4; clear h hb p6 t6_0 t6_1 t6_2 t6_3 t6_4 hc6))
  have hc7 := Lib.hid (rom_to HS7.out (s ++ ⟨#[115, 121, 110, 99]⟩) (sz_cat HSZ.out (by decide)) (by have := HL.out; simp [len_turn, len_pulse]; omega) #[.int .u8 202] 1 rfl (by kernel_rfl) (by omega))
  go_upto_region 9 with (first
    | (go_at_call 12; refine hc7.out.mono ?_; rintro e w8 ⟨rfl, h, hb⟩; have HS8 := Lib.hid h; have HF8 := Lib.hid (HF7.out.trans hb); have GP8 := Lib.hid (GP7.out.frm hb (by decide) (by decide) (by decide)); have p8 : w8.cell? ⟨gp, 0, none⟩ = some (.pointer (some ⟨P, 0, none⟩)) := GP8.out.cell 0; have GT8 := Lib.hid (GT7.out.frm hb (by decide) (by decide) (by decide)); have t8_0 : w8.cell? ⟨gt, 0, none⟩ = some (.int .i64 t.pilot) := GT8.out.cell 0; have t8_1 : w8.cell? ⟨gt, 1, none⟩ = some (.int .i64 t.sync1) := GT8.out.cell 1; have t8_2 : w8.cell? ⟨gt, 2, none⟩ = some (.int .i64 t.sync2) := GT8.out.cell 2; have t8_3 : w8.cell? ⟨gt, 3, none⟩ = some (.int .i64 t.zero) := GT8.out.cell 3; have t8_4 : w8.cell? ⟨gt, 4, none⟩ = some (.int .i64 t.one) := GT8.out.cell 4; clear h hb p7 t7_0 t7_1 t7_2 t7_3 t7_4 hc7))
  have hc8 := Lib.hid (rp_pulse HS8.out (by have := HL.out; simp [len_turn, len_pulse]; omega) (t.pilot - 72) (by omega) (by omega))
  go_upto_region 10 with (first
    | (go_at_call 34; refine hc8.out.mono ?_; rintro e w9 ⟨rfl, h, hb⟩; have HS9 := Lib.hid h; have HF9 := Lib.hid (HF8.out.trans hb); have GP9 := Lib.hid (GP8.out.frm hb (by decide) (by decide) (by decide)); have p9 : w9.cell? ⟨gp, 0, none⟩ = some (.pointer (some ⟨P, 0, none⟩)) := GP9.out.cell 0; have GT9 := Lib.hid (GT8.out.frm hb (by decide) (by decide) (by decide)); have t9_0 : w9.cell? ⟨gt, 0, none⟩ = some (.int .i64 t.pilot) := GT9.out.cell 0; have t9_1 : w9.cell? ⟨gt, 1, none⟩ = some (.int .i64 t.sync1) := GT9.out.cell 1; have t9_2 : w9.cell? ⟨gt, 2, none⟩ = some (.int .i64 t.sync2) := GT9.out.cell 2; have t9_3 : w9.cell? ⟨gt, 3, none⟩ = some (.int .i64 t.zero) := GT9.out.cell 3; have t9_4 : w9.cell? ⟨gt, 4, none⟩ = some (.int .i64 t.one) := GT9.out.cell 4; clear h hb p8 t8_0 t8_1 t8_2 t8_3 t8_4 hc8))
  have hc9 := Lib.hid (rom_to HS9.out (s ++ ⟨#[112, 105, 108, 111, 116]⟩) (sz_cat HSZ.out (by decide)) (by have := HL.out; simp [len_turn, len_pulse]; omega) #[.int .u8 195] 1 rfl (by kernel_rfl) (by omega))
  go_upto_region 11 with (first
    | (go_at_call 12; refine hc9.out.mono ?_; rintro e w10 ⟨rfl, h, hb⟩; have HS10 := Lib.hid h; have HF10 := Lib.hid (HF9.out.trans hb); have GP10 := Lib.hid (GP9.out.frm hb (by decide) (by decide) (by decide)); have p10 : w10.cell? ⟨gp, 0, none⟩ = some (.pointer (some ⟨P, 0, none⟩)) := GP10.out.cell 0; have GT10 := Lib.hid (GT9.out.frm hb (by decide) (by decide) (by decide)); have t10_0 : w10.cell? ⟨gt, 0, none⟩ = some (.int .i64 t.pilot) := GT10.out.cell 0; have t10_1 : w10.cell? ⟨gt, 1, none⟩ = some (.int .i64 t.sync1) := GT10.out.cell 1; have t10_2 : w10.cell? ⟨gt, 2, none⟩ = some (.int .i64 t.sync2) := GT10.out.cell 2; have t10_3 : w10.cell? ⟨gt, 3, none⟩ = some (.int .i64 t.zero) := GT10.out.cell 3; have t10_4 : w10.cell? ⟨gt, 4, none⟩ = some (.int .i64 t.one) := GT10.out.cell 4; clear h hb p9 t9_0 t9_1 t9_2 t9_3 t9_4 hc9))
  have hc10 := Lib.hid (rom_mark HS10.out (s ++ ⟨#[115, 121, 110, 99]⟩) (sz_cat HSZ.out (by decide)) (by have := HL.out; simp [len_turn, len_pulse]; omega))
  go_upto_region 12 with (first
    | (go_at_call 14; refine hc10.out.mono ?_; rintro e w11 ⟨rfl, h, hb⟩; have HS11 := Lib.hid h; have HF11 := Lib.hid (HF10.out.trans hb); have GP11 := Lib.hid (GP10.out.frm hb (by decide) (by decide) (by decide)); have p11 : w11.cell? ⟨gp, 0, none⟩ = some (.pointer (some ⟨P, 0, none⟩)) := GP11.out.cell 0; have GT11 := Lib.hid (GT10.out.frm hb (by decide) (by decide) (by decide)); have t11_0 : w11.cell? ⟨gt, 0, none⟩ = some (.int .i64 t.pilot) := GT11.out.cell 0; have t11_1 : w11.cell? ⟨gt, 1, none⟩ = some (.int .i64 t.sync1) := GT11.out.cell 1; have t11_2 : w11.cell? ⟨gt, 2, none⟩ = some (.int .i64 t.sync2) := GT11.out.cell 2; have t11_3 : w11.cell? ⟨gt, 3, none⟩ = some (.int .i64 t.zero) := GT11.out.cell 3; have t11_4 : w11.cell? ⟨gt, 4, none⟩ = some (.int .i64 t.one) := GT11.out.cell 4; clear h hb p10 t10_0 t10_1 t10_2 t10_3 t10_4 hc10))
  have hc11 := Lib.hid (rp_pulse HS11.out (by have := HL.out; simp [len_turn, len_pulse]; omega) (t.sync1 - 72) (by omega) (by omega))
  go_upto_region 13 with (first
    | (go_at_call 34; refine hc11.out.mono ?_; rintro e w12 ⟨rfl, h, hb⟩; have HS12 := Lib.hid h; have HF12 := Lib.hid (HF11.out.trans hb); have GP12 := Lib.hid (GP11.out.frm hb (by decide) (by decide) (by decide)); have p12 : w12.cell? ⟨gp, 0, none⟩ = some (.pointer (some ⟨P, 0, none⟩)) := GP12.out.cell 0; have GT12 := Lib.hid (GT11.out.frm hb (by decide) (by decide) (by decide)); have t12_0 : w12.cell? ⟨gt, 0, none⟩ = some (.int .i64 t.pilot) := GT12.out.cell 0; have t12_1 : w12.cell? ⟨gt, 1, none⟩ = some (.int .i64 t.sync1) := GT12.out.cell 1; have t12_2 : w12.cell? ⟨gt, 2, none⟩ = some (.int .i64 t.sync2) := GT12.out.cell 2; have t12_3 : w12.cell? ⟨gt, 3, none⟩ = some (.int .i64 t.zero) := GT12.out.cell 3; have t12_4 : w12.cell? ⟨gt, 4, none⟩ = some (.int .i64 t.one) := GT12.out.cell 4; clear h hb p11 t11_0 t11_1 t11_2 t11_3 t11_4 hc11))
  have hc12 := Lib.hid (rp_pulse HS12.out (by have := HL.out; simp [len_turn, len_pulse]; omega) (t.sync2 - 18) (by omega) (by omega))
  go_upto_region 14 with (first
    | (go_at_call 34; refine hc12.out.mono ?_; rintro e w13 ⟨rfl, h, hb⟩; have HS13 := Lib.hid h; have HF13 := Lib.hid (HF12.out.trans hb); have GP13 := Lib.hid (GP12.out.frm hb (by decide) (by decide) (by decide)); have p13 : w13.cell? ⟨gp, 0, none⟩ = some (.pointer (some ⟨P, 0, none⟩)) := GP13.out.cell 0; have GT13 := Lib.hid (GT12.out.frm hb (by decide) (by decide) (by decide)); have t13_0 : w13.cell? ⟨gt, 0, none⟩ = some (.int .i64 t.pilot) := GT13.out.cell 0; have t13_1 : w13.cell? ⟨gt, 1, none⟩ = some (.int .i64 t.sync1) := GT13.out.cell 1; have t13_2 : w13.cell? ⟨gt, 2, none⟩ = some (.int .i64 t.sync2) := GT13.out.cell 2; have t13_3 : w13.cell? ⟨gt, 3, none⟩ = some (.int .i64 t.zero) := GT13.out.cell 3; have t13_4 : w13.cell? ⟨gt, 4, none⟩ = some (.int .i64 t.one) := GT13.out.cell 4; clear h hb p12 t12_0 t12_1 t12_2 t12_3 t12_4 hc12))
  have hc13 := Lib.hid (rom_bytes HS13.out #[.int .u8 14, .int .u8 8] 2 rfl (by kernel_rfl) (by omega))
  go_upto_region 15 with (first
    | (go_at_call 11; refine hc13.out.mono ?_; rintro e w14 ⟨rfl, h, hb⟩; have HS14 := Lib.hid h; have HF14 := Lib.hid (HF13.out.trans hb); have GP14 := Lib.hid (GP13.out.frm hb (by decide) (by decide) (by decide)); have p14 : w14.cell? ⟨gp, 0, none⟩ = some (.pointer (some ⟨P, 0, none⟩)) := GP14.out.cell 0; have GT14 := Lib.hid (GT13.out.frm hb (by decide) (by decide) (by decide)); have t14_0 : w14.cell? ⟨gt, 0, none⟩ = some (.int .i64 t.pilot) := GT14.out.cell 0; have t14_1 : w14.cell? ⟨gt, 1, none⟩ = some (.int .i64 t.sync1) := GT14.out.cell 1; have t14_2 : w14.cell? ⟨gt, 2, none⟩ = some (.int .i64 t.sync2) := GT14.out.cell 2; have t14_3 : w14.cell? ⟨gt, 3, none⟩ = some (.int .i64 t.zero) := GT14.out.cell 3; have t14_4 : w14.cell? ⟨gt, 4, none⟩ = some (.int .i64 t.one) := GT14.out.cell 4; clear h hb p13 t13_0 t13_1 t13_2 t13_3 t13_4 hc13))
  have hc14 := Lib.hid (rom_delay HS14.out (125) (by omega) (by omega))
  go_upto_region 16 with (first
    | (go_at_call 35; refine hc14.out.mono ?_; rintro e w15 ⟨rfl, h, hb⟩; have HS15 := Lib.hid h; have HF15 := Lib.hid (HF14.out.trans hb); have GP15 := Lib.hid (GP14.out.frm hb (by decide) (by decide) (by decide)); have p15 : w15.cell? ⟨gp, 0, none⟩ = some (.pointer (some ⟨P, 0, none⟩)) := GP15.out.cell 0; have GT15 := Lib.hid (GT14.out.frm hb (by decide) (by decide) (by decide)); have t15_0 : w15.cell? ⟨gt, 0, none⟩ = some (.int .i64 t.pilot) := GT15.out.cell 0; have t15_1 : w15.cell? ⟨gt, 1, none⟩ = some (.int .i64 t.sync1) := GT15.out.cell 1; have t15_2 : w15.cell? ⟨gt, 2, none⟩ = some (.int .i64 t.sync2) := GT15.out.cell 2; have t15_3 : w15.cell? ⟨gt, 3, none⟩ = some (.int .i64 t.zero) := GT15.out.cell 3; have t15_4 : w15.cell? ⟨gt, 4, none⟩ = some (.int .i64 t.one) := GT15.out.cell 4; clear h hb p14 t14_0 t14_1 t14_2 t14_3 t14_4 hc14))
  have hc15 := Lib.hid (rom_to HS15.out (s ++ ⟨#[98, 105, 116]⟩) (sz_cat HSZ.out (by decide)) (by have := HL.out; simp [len_turn, len_pulse]; omega) #[.int .u8 195] 1 rfl (by kernel_rfl) (by omega))
  go_wp2_with (first
    | (go_at_call 12; refine hc15.out.mono ?_; rintro e w16 ⟨rfl, h, hb⟩; have HS16 := Lib.hid h; have HF16 := Lib.hid (HF15.out.trans hb); have GP16 := Lib.hid (GP15.out.frm hb (by decide) (by decide) (by decide)); have p16 : w16.cell? ⟨gp, 0, none⟩ = some (.pointer (some ⟨P, 0, none⟩)) := GP16.out.cell 0; have GT16 := Lib.hid (GT15.out.frm hb (by decide) (by decide) (by decide)); have t16_0 : w16.cell? ⟨gt, 0, none⟩ = some (.int .i64 t.pilot) := GT16.out.cell 0; have t16_1 : w16.cell? ⟨gt, 1, none⟩ = some (.int .i64 t.sync1) := GT16.out.cell 1; have t16_2 : w16.cell? ⟨gt, 2, none⟩ = some (.int .i64 t.sync2) := GT16.out.cell 2; have t16_3 : w16.cell? ⟨gt, 3, none⟩ = some (.int .i64 t.zero) := GT16.out.cell 3; have t16_4 : w16.cell? ⟨gt, 4, none⟩ = some (.int .i64 t.one) := GT16.out.cell 4; clear h hb p15 t15_0 t15_1 t15_2 t15_3 t15_4 hc15))
  go_end0
  have e : L ++ p_pilot s t = L ++ [opBytes (lz #[.int .u8 175, .int .u8 211, .int .u8 254])] ++ [opBytes (lz #[.int .u8 62, .int .u8 8, .int .u8 211, .int .u8 254])] ++ [opTo (s ++ ⟨#[112, 105, 108, 111, 116]⟩) (lz #[.int .u8 195])] ++ [opMark (s ++ ⟨#[112, 105, 108, 111, 116]⟩)] ++ [opBytes (lz #[.int .u8 79, .int .u8 253, .int .u8 43])] ++ [opBytes (lz #[.int .u8 253, .int .u8 124, .int .u8 253, .int .u8 181])] ++ [opBytes (lz #[.int .u8 121])] ++ [opTo (s ++ ⟨#[115, 121, 110, 99]⟩) (lz #[.int .u8 202])] ++ p_pulse (t.pilot - 72) ++ [opTo (s ++ ⟨#[112, 105, 108, 111, 116]⟩) (lz #[.int .u8 195])] ++ [opMark (s ++ ⟨#[115, 121, 110, 99]⟩)] ++ p_pulse (t.sync1 - 72) ++ p_pulse (t.sync2 - 18) ++ [opBytes (lz #[.int .u8 14, .int .u8 8])] ++ [opDelay (125)] ++ [opTo (s ++ ⟨#[98, 105, 116]⟩) (lz #[.int .u8 195])] := by simp [p_pilot, lz, numV]
  rw [e]
  exact ⟨rfl, HS16.out, HF16.out⟩
theorem len_pilot (s : ByteArray) (t : TimL) : (p_pilot s t).length = 19 := by simp [p_pilot, len_pulse, len_pulse, len_pulse]
def p_bits (s : ByteArray) (t : TimL) : List OpL := [opMark (s ++ ⟨#[112, 97, 100]⟩)] ++ [opDelay (108)] ++ [opTo (s ++ ⟨#[98, 105, 116]⟩) [195]] ++ [opMark (s ++ ⟨#[98, 105, 116]⟩)] ++ [opBytes [203, 36]] ++ [opTo (s ++ ⟨#[111, 110, 101]⟩) [218]] ++ p_pulse (t.zero - 178) ++ p_pulse (t.zero - 18) ++ [opTo (s ++ ⟨#[110, 101, 120, 116]⟩) [195]] ++ [opMark (s ++ ⟨#[111, 110, 101]⟩)] ++ p_pulse (t.one - 178) ++ p_pulse (t.one - 18) ++ [opTo (s ++ ⟨#[110, 101, 120, 116]⟩) [195]] ++ [opMark (s ++ ⟨#[110, 101, 120, 116]⟩)] ++ [opBytes [13]] ++ [opTo (s ++ ⟨#[112, 97, 100]⟩) [194]] ++ [opBytes [71]] ++ [opBytes [122, 60]] ++ [opTo (s ++ ⟨#[100, 111, 110, 101]⟩) [202]]
set_option maxRecDepth 100000 in
set_option maxHeartbeats 8000000 in
theorem rp_bits {B P M : Nat} {L : List OpL} {w : World} (h : RomS B P M L w) (hL : L.length ≤ 800) (s : ByteArray) (t : TimL) (hs : s.size ≤ 10) (ht : TimOk t) :
    Calls Try.prog 32 #[progV P, .string s, timV t] w (RomR B P M (L ++ p_bits s t) w) := by
  have HL := Lib.hid hL
  have hb : Below w.heap.size w ((w.alloc (.cells #[.pointer (some ⟨P, 0, none⟩)] 39)).alloc (.cells #[.int .i64 t.pilot, .int .i64 t.sync1, .int .i64 t.sync2, .int .i64 t.zero, .int .i64 t.one] 29)) := ((Below.refl _ w).alloc (Nat.le_refl _) _).alloc (by simp) _
  have g0 := (Blk.new w 39 [.pointer (some ⟨P, 0, none⟩)]).alloc (.cells #[.int .i64 t.pilot, .int .i64 t.sync1, .int .i64 t.sync2, .int .i64 t.zero, .int .i64 t.one] 29)
  have g1 := Blk.new (w.alloc (.cells #[.pointer (some ⟨P, 0, none⟩)] 39)) 29 [.int .i64 t.pilot, .int .i64 t.sync1, .int .i64 t.sync2, .int .i64 t.zero, .int .i64 t.one]
  rw [World.size_alloc] at g1
  obtain ⟨w0, hw0⟩ : ∃ u, u = (w.alloc (.cells #[.pointer (some ⟨P, 0, none⟩)] 39)).alloc (.cells #[.int .i64 t.pilot, .int .i64 t.sync1, .int .i64 t.sync2, .int .i64 t.zero, .int .i64 t.one] 29) := ⟨_, rfl⟩
  obtain ⟨gp, hgp⟩ : ∃ g, g = w.heap.size := ⟨_, rfl⟩
  obtain ⟨gt, hgt⟩ : ∃ g, g = w.heap.size + 1 := ⟨_, rfl⟩
  have GT0 : Hid (Blk w0 gt 29 [.int .i64 t.pilot, .int .i64 t.sync1, .int .i64 t.sync2, .int .i64 t.zero, .int .i64 t.one]) := Lib.hid (by rw [hw0, hgt]; exact g1)
  have t0_0 : w0.cell? ⟨gt, 0, none⟩ = some (.int .i64 t.pilot) := GT0.out.cell 0
  have t0_1 : w0.cell? ⟨gt, 1, none⟩ = some (.int .i64 t.sync1) := GT0.out.cell 1
  have t0_2 : w0.cell? ⟨gt, 2, none⟩ = some (.int .i64 t.sync2) := GT0.out.cell 2
  have t0_3 : w0.cell? ⟨gt, 3, none⟩ = some (.int .i64 t.zero) := GT0.out.cell 3
  have t0_4 : w0.cell? ⟨gt, 4, none⟩ = some (.int .i64 t.one) := GT0.out.cell 4
  have GP0 : Hid (Blk w0 gp 39 [.pointer (some ⟨P, 0, none⟩)]) := Lib.hid (by rw [hw0, hgp]; exact g0)
  have HS0 : Hid (RomS B P M L w0) := Lib.hid (by rw [hw0]; exact h.below_ hb)
  have HF0 : Hid (Frm B w w0) := Lib.hid (by rw [hw0]; exact h.s.toB hb)
  have p0 : w0.cell? ⟨gp, 0, none⟩ = some (.pointer (some ⟨P, 0, none⟩)) := GP0.out.cell 0
  have HW := Lib.hid hw0
  have HGP := Lib.hid hgp
  have HGT := Lib.hid hgt
  clear h hb hw0 hgp g0 hL g1 hgt
  have HSZ := Lib.hid hs
  have HT := Lib.hid ht
  have bp0 := ht.p0
  have bp1 := ht.p1
  have ba0 := ht.a0
  have ba1 := ht.a1
  have bb0 := ht.b0
  have bb1 := ht.b1
  have bz0 := ht.z0
  have bz1 := ht.z1
  have bo0 := ht.o0
  have bo1 := ht.o1
  clear ht
  unfold progV timV
  go_enter Try.func32, Try.ntmps32
  go_upto_region 1 with fail
  rw [← HW.out, ← HGT.out, ← HGP.out]
  clear HW HGP HGT
  have hc0 := Lib.hid (rom_mark HS0.out (s ++ ⟨#[112, 97, 100]⟩) (sz_cat HSZ.out (by decide)) (by have := HL.out; simp [len_turn, len_pulse]; omega))
  go_upto_region 2 with (first
    | (go_at_call 14; refine hc0.out.mono ?_; rintro e w1 ⟨rfl, h, hb⟩; have HS1 := Lib.hid h; have HF1 := Lib.hid (HF0.out.trans hb); have GP1 := Lib.hid (GP0.out.frm hb (by decide) (by decide) (by decide)); have p1 : w1.cell? ⟨gp, 0, none⟩ = some (.pointer (some ⟨P, 0, none⟩)) := GP1.out.cell 0; have GT1 := Lib.hid (GT0.out.frm hb (by decide) (by decide) (by decide)); have t1_0 : w1.cell? ⟨gt, 0, none⟩ = some (.int .i64 t.pilot) := GT1.out.cell 0; have t1_1 : w1.cell? ⟨gt, 1, none⟩ = some (.int .i64 t.sync1) := GT1.out.cell 1; have t1_2 : w1.cell? ⟨gt, 2, none⟩ = some (.int .i64 t.sync2) := GT1.out.cell 2; have t1_3 : w1.cell? ⟨gt, 3, none⟩ = some (.int .i64 t.zero) := GT1.out.cell 3; have t1_4 : w1.cell? ⟨gt, 4, none⟩ = some (.int .i64 t.one) := GT1.out.cell 4; clear h hb p0 t0_0 t0_1 t0_2 t0_3 t0_4 hc0))
  have hc1 := Lib.hid (rom_delay HS1.out (108) (by omega) (by omega))
  go_upto_region 3 with (first
    | (go_at_call 35; refine hc1.out.mono ?_; rintro e w2 ⟨rfl, h, hb⟩; have HS2 := Lib.hid h; have HF2 := Lib.hid (HF1.out.trans hb); have GP2 := Lib.hid (GP1.out.frm hb (by decide) (by decide) (by decide)); have p2 : w2.cell? ⟨gp, 0, none⟩ = some (.pointer (some ⟨P, 0, none⟩)) := GP2.out.cell 0; have GT2 := Lib.hid (GT1.out.frm hb (by decide) (by decide) (by decide)); have t2_0 : w2.cell? ⟨gt, 0, none⟩ = some (.int .i64 t.pilot) := GT2.out.cell 0; have t2_1 : w2.cell? ⟨gt, 1, none⟩ = some (.int .i64 t.sync1) := GT2.out.cell 1; have t2_2 : w2.cell? ⟨gt, 2, none⟩ = some (.int .i64 t.sync2) := GT2.out.cell 2; have t2_3 : w2.cell? ⟨gt, 3, none⟩ = some (.int .i64 t.zero) := GT2.out.cell 3; have t2_4 : w2.cell? ⟨gt, 4, none⟩ = some (.int .i64 t.one) := GT2.out.cell 4; clear h hb p1 t1_0 t1_1 t1_2 t1_3 t1_4 hc1))
  have hc2 := Lib.hid (rom_to HS2.out (s ++ ⟨#[98, 105, 116]⟩) (sz_cat HSZ.out (by decide)) (by have := HL.out; simp [len_turn, len_pulse]; omega) #[.int .u8 195] 1 rfl (by kernel_rfl) (by omega))
  go_upto_region 4 with (first
    | (go_at_call 12; refine hc2.out.mono ?_; rintro e w3 ⟨rfl, h, hb⟩; have HS3 := Lib.hid h; have HF3 := Lib.hid (HF2.out.trans hb); have GP3 := Lib.hid (GP2.out.frm hb (by decide) (by decide) (by decide)); have p3 : w3.cell? ⟨gp, 0, none⟩ = some (.pointer (some ⟨P, 0, none⟩)) := GP3.out.cell 0; have GT3 := Lib.hid (GT2.out.frm hb (by decide) (by decide) (by decide)); have t3_0 : w3.cell? ⟨gt, 0, none⟩ = some (.int .i64 t.pilot) := GT3.out.cell 0; have t3_1 : w3.cell? ⟨gt, 1, none⟩ = some (.int .i64 t.sync1) := GT3.out.cell 1; have t3_2 : w3.cell? ⟨gt, 2, none⟩ = some (.int .i64 t.sync2) := GT3.out.cell 2; have t3_3 : w3.cell? ⟨gt, 3, none⟩ = some (.int .i64 t.zero) := GT3.out.cell 3; have t3_4 : w3.cell? ⟨gt, 4, none⟩ = some (.int .i64 t.one) := GT3.out.cell 4; clear h hb p2 t2_0 t2_1 t2_2 t2_3 t2_4 hc2))
  have hc3 := Lib.hid (rom_mark HS3.out (s ++ ⟨#[98, 105, 116]⟩) (sz_cat HSZ.out (by decide)) (by have := HL.out; simp [len_turn, len_pulse]; omega))
  go_upto_region 5 with (first
    | (go_at_call 14; refine hc3.out.mono ?_; rintro e w4 ⟨rfl, h, hb⟩; have HS4 := Lib.hid h; have HF4 := Lib.hid (HF3.out.trans hb); have GP4 := Lib.hid (GP3.out.frm hb (by decide) (by decide) (by decide)); have p4 : w4.cell? ⟨gp, 0, none⟩ = some (.pointer (some ⟨P, 0, none⟩)) := GP4.out.cell 0; have GT4 := Lib.hid (GT3.out.frm hb (by decide) (by decide) (by decide)); have t4_0 : w4.cell? ⟨gt, 0, none⟩ = some (.int .i64 t.pilot) := GT4.out.cell 0; have t4_1 : w4.cell? ⟨gt, 1, none⟩ = some (.int .i64 t.sync1) := GT4.out.cell 1; have t4_2 : w4.cell? ⟨gt, 2, none⟩ = some (.int .i64 t.sync2) := GT4.out.cell 2; have t4_3 : w4.cell? ⟨gt, 3, none⟩ = some (.int .i64 t.zero) := GT4.out.cell 3; have t4_4 : w4.cell? ⟨gt, 4, none⟩ = some (.int .i64 t.one) := GT4.out.cell 4; clear h hb p3 t3_0 t3_1 t3_2 t3_3 t3_4 hc3))
  have hc4 := Lib.hid (rom_bytes HS4.out #[.int .u8 203, .int .u8 36] 2 rfl (by kernel_rfl) (by omega))
  go_upto_region 6 with (first
    | (go_at_call 11; refine hc4.out.mono ?_; rintro e w5 ⟨rfl, h, hb⟩; have HS5 := Lib.hid h; have HF5 := Lib.hid (HF4.out.trans hb); have GP5 := Lib.hid (GP4.out.frm hb (by decide) (by decide) (by decide)); have p5 : w5.cell? ⟨gp, 0, none⟩ = some (.pointer (some ⟨P, 0, none⟩)) := GP5.out.cell 0; have GT5 := Lib.hid (GT4.out.frm hb (by decide) (by decide) (by decide)); have t5_0 : w5.cell? ⟨gt, 0, none⟩ = some (.int .i64 t.pilot) := GT5.out.cell 0; have t5_1 : w5.cell? ⟨gt, 1, none⟩ = some (.int .i64 t.sync1) := GT5.out.cell 1; have t5_2 : w5.cell? ⟨gt, 2, none⟩ = some (.int .i64 t.sync2) := GT5.out.cell 2; have t5_3 : w5.cell? ⟨gt, 3, none⟩ = some (.int .i64 t.zero) := GT5.out.cell 3; have t5_4 : w5.cell? ⟨gt, 4, none⟩ = some (.int .i64 t.one) := GT5.out.cell 4; clear h hb p4 t4_0 t4_1 t4_2 t4_3 t4_4 hc4))
  have hc5 := Lib.hid (rom_to HS5.out (s ++ ⟨#[111, 110, 101]⟩) (sz_cat HSZ.out (by decide)) (by have := HL.out; simp [len_turn, len_pulse]; omega) #[.int .u8 218] 1 rfl (by kernel_rfl) (by omega))
  go_upto_region 7 with (first
    | (go_at_call 12; refine hc5.out.mono ?_; rintro e w6 ⟨rfl, h, hb⟩; have HS6 := Lib.hid h; have HF6 := Lib.hid (HF5.out.trans hb); have GP6 := Lib.hid (GP5.out.frm hb (by decide) (by decide) (by decide)); have p6 : w6.cell? ⟨gp, 0, none⟩ = some (.pointer (some ⟨P, 0, none⟩)) := GP6.out.cell 0; have GT6 := Lib.hid (GT5.out.frm hb (by decide) (by decide) (by decide)); have t6_0 : w6.cell? ⟨gt, 0, none⟩ = some (.int .i64 t.pilot) := GT6.out.cell 0; have t6_1 : w6.cell? ⟨gt, 1, none⟩ = some (.int .i64 t.sync1) := GT6.out.cell 1; have t6_2 : w6.cell? ⟨gt, 2, none⟩ = some (.int .i64 t.sync2) := GT6.out.cell 2; have t6_3 : w6.cell? ⟨gt, 3, none⟩ = some (.int .i64 t.zero) := GT6.out.cell 3; have t6_4 : w6.cell? ⟨gt, 4, none⟩ = some (.int .i64 t.one) := GT6.out.cell 4; clear h hb p5 t5_0 t5_1 t5_2 t5_3 t5_4 hc5))
  have hc6 := Lib.hid (rp_pulse HS6.out (by have := HL.out; simp [len_turn, len_pulse]; omega) (t.zero - 178) (by omega) (by omega))
  go_upto_region 8 with (first
    | (go_at_call 34; refine hc6.out.mono ?_; rintro e w7 ⟨rfl, h, hb⟩; have HS7 := Lib.hid h; have HF7 := Lib.hid (HF6.out.trans hb); have GP7 := Lib.hid (GP6.out.frm hb (by decide) (by decide) (by decide)); have p7 : w7.cell? ⟨gp, 0, none⟩ = some (.pointer (some ⟨P, 0, none⟩)) := GP7.out.cell 0; have GT7 := Lib.hid (GT6.out.frm hb (by decide) (by decide) (by decide)); have t7_0 : w7.cell? ⟨gt, 0, none⟩ = some (.int .i64 t.pilot) := GT7.out.cell 0; have t7_1 : w7.cell? ⟨gt, 1, none⟩ = some (.int .i64 t.sync1) := GT7.out.cell 1; have t7_2 : w7.cell? ⟨gt, 2, none⟩ = some (.int .i64 t.sync2) := GT7.out.cell 2; have t7_3 : w7.cell? ⟨gt, 3, none⟩ = some (.int .i64 t.zero) := GT7.out.cell 3; have t7_4 : w7.cell? ⟨gt, 4, none⟩ = some (.int .i64 t.one) := GT7.out.cell 4; clear h hb p6 t6_0 t6_1 t6_2 t6_3 t6_4 hc6))
  have hc7 := Lib.hid (rp_pulse HS7.out (by have := HL.out; simp [len_turn, len_pulse]; omega) (t.zero - 18) (by omega) (by omega))
  go_upto_region 9 with (first
    | (go_at_call 34; refine hc7.out.mono ?_; rintro e w8 ⟨rfl, h, hb⟩; have HS8 := Lib.hid h; have HF8 := Lib.hid (HF7.out.trans hb); have GP8 := Lib.hid (GP7.out.frm hb (by decide) (by decide) (by decide)); have p8 : w8.cell? ⟨gp, 0, none⟩ = some (.pointer (some ⟨P, 0, none⟩)) := GP8.out.cell 0; have GT8 := Lib.hid (GT7.out.frm hb (by decide) (by decide) (by decide)); have t8_0 : w8.cell? ⟨gt, 0, none⟩ = some (.int .i64 t.pilot) := GT8.out.cell 0; have t8_1 : w8.cell? ⟨gt, 1, none⟩ = some (.int .i64 t.sync1) := GT8.out.cell 1; have t8_2 : w8.cell? ⟨gt, 2, none⟩ = some (.int .i64 t.sync2) := GT8.out.cell 2; have t8_3 : w8.cell? ⟨gt, 3, none⟩ = some (.int .i64 t.zero) := GT8.out.cell 3; have t8_4 : w8.cell? ⟨gt, 4, none⟩ = some (.int .i64 t.one) := GT8.out.cell 4; clear h hb p7 t7_0 t7_1 t7_2 t7_3 t7_4 hc7))
  have hc8 := Lib.hid (rom_to HS8.out (s ++ ⟨#[110, 101, 120, 116]⟩) (sz_cat HSZ.out (by decide)) (by have := HL.out; simp [len_turn, len_pulse]; omega) #[.int .u8 195] 1 rfl (by kernel_rfl) (by omega))
  go_upto_region 10 with (first
    | (go_at_call 12; refine hc8.out.mono ?_; rintro e w9 ⟨rfl, h, hb⟩; have HS9 := Lib.hid h; have HF9 := Lib.hid (HF8.out.trans hb); have GP9 := Lib.hid (GP8.out.frm hb (by decide) (by decide) (by decide)); have p9 : w9.cell? ⟨gp, 0, none⟩ = some (.pointer (some ⟨P, 0, none⟩)) := GP9.out.cell 0; have GT9 := Lib.hid (GT8.out.frm hb (by decide) (by decide) (by decide)); have t9_0 : w9.cell? ⟨gt, 0, none⟩ = some (.int .i64 t.pilot) := GT9.out.cell 0; have t9_1 : w9.cell? ⟨gt, 1, none⟩ = some (.int .i64 t.sync1) := GT9.out.cell 1; have t9_2 : w9.cell? ⟨gt, 2, none⟩ = some (.int .i64 t.sync2) := GT9.out.cell 2; have t9_3 : w9.cell? ⟨gt, 3, none⟩ = some (.int .i64 t.zero) := GT9.out.cell 3; have t9_4 : w9.cell? ⟨gt, 4, none⟩ = some (.int .i64 t.one) := GT9.out.cell 4; clear h hb p8 t8_0 t8_1 t8_2 t8_3 t8_4 hc8))
  have hc9 := Lib.hid (rom_mark HS9.out (s ++ ⟨#[111, 110, 101]⟩) (sz_cat HSZ.out (by decide)) (by have := HL.out; simp [len_turn, len_pulse]; omega))
  go_upto_region 11 with (first
    | (go_at_call 14; refine hc9.out.mono ?_; rintro e w10 ⟨rfl, h, hb⟩; have HS10 := Lib.hid h; have HF10 := Lib.hid (HF9.out.trans hb); have GP10 := Lib.hid (GP9.out.frm hb (by decide) (by decide) (by decide)); have p10 : w10.cell? ⟨gp, 0, none⟩ = some (.pointer (some ⟨P, 0, none⟩)) := GP10.out.cell 0; have GT10 := Lib.hid (GT9.out.frm hb (by decide) (by decide) (by decide)); have t10_0 : w10.cell? ⟨gt, 0, none⟩ = some (.int .i64 t.pilot) := GT10.out.cell 0; have t10_1 : w10.cell? ⟨gt, 1, none⟩ = some (.int .i64 t.sync1) := GT10.out.cell 1; have t10_2 : w10.cell? ⟨gt, 2, none⟩ = some (.int .i64 t.sync2) := GT10.out.cell 2; have t10_3 : w10.cell? ⟨gt, 3, none⟩ = some (.int .i64 t.zero) := GT10.out.cell 3; have t10_4 : w10.cell? ⟨gt, 4, none⟩ = some (.int .i64 t.one) := GT10.out.cell 4; clear h hb p9 t9_0 t9_1 t9_2 t9_3 t9_4 hc9))
  have hc10 := Lib.hid (rp_pulse HS10.out (by have := HL.out; simp [len_turn, len_pulse]; omega) (t.one - 178) (by omega) (by omega))
  go_upto_region 12 with (first
    | (go_at_call 34; refine hc10.out.mono ?_; rintro e w11 ⟨rfl, h, hb⟩; have HS11 := Lib.hid h; have HF11 := Lib.hid (HF10.out.trans hb); have GP11 := Lib.hid (GP10.out.frm hb (by decide) (by decide) (by decide)); have p11 : w11.cell? ⟨gp, 0, none⟩ = some (.pointer (some ⟨P, 0, none⟩)) := GP11.out.cell 0; have GT11 := Lib.hid (GT10.out.frm hb (by decide) (by decide) (by decide)); have t11_0 : w11.cell? ⟨gt, 0, none⟩ = some (.int .i64 t.pilot) := GT11.out.cell 0; have t11_1 : w11.cell? ⟨gt, 1, none⟩ = some (.int .i64 t.sync1) := GT11.out.cell 1; have t11_2 : w11.cell? ⟨gt, 2, none⟩ = some (.int .i64 t.sync2) := GT11.out.cell 2; have t11_3 : w11.cell? ⟨gt, 3, none⟩ = some (.int .i64 t.zero) := GT11.out.cell 3; have t11_4 : w11.cell? ⟨gt, 4, none⟩ = some (.int .i64 t.one) := GT11.out.cell 4; clear h hb p10 t10_0 t10_1 t10_2 t10_3 t10_4 hc10))
  have hc11 := Lib.hid (rp_pulse HS11.out (by have := HL.out; simp [len_turn, len_pulse]; omega) (t.one - 18) (by omega) (by omega))
  go_upto_region 13 with (first
    | (go_at_call 34; refine hc11.out.mono ?_; rintro e w12 ⟨rfl, h, hb⟩; have HS12 := Lib.hid h; have HF12 := Lib.hid (HF11.out.trans hb); have GP12 := Lib.hid (GP11.out.frm hb (by decide) (by decide) (by decide)); have p12 : w12.cell? ⟨gp, 0, none⟩ = some (.pointer (some ⟨P, 0, none⟩)) := GP12.out.cell 0; have GT12 := Lib.hid (GT11.out.frm hb (by decide) (by decide) (by decide)); have t12_0 : w12.cell? ⟨gt, 0, none⟩ = some (.int .i64 t.pilot) := GT12.out.cell 0; have t12_1 : w12.cell? ⟨gt, 1, none⟩ = some (.int .i64 t.sync1) := GT12.out.cell 1; have t12_2 : w12.cell? ⟨gt, 2, none⟩ = some (.int .i64 t.sync2) := GT12.out.cell 2; have t12_3 : w12.cell? ⟨gt, 3, none⟩ = some (.int .i64 t.zero) := GT12.out.cell 3; have t12_4 : w12.cell? ⟨gt, 4, none⟩ = some (.int .i64 t.one) := GT12.out.cell 4; clear h hb p11 t11_0 t11_1 t11_2 t11_3 t11_4 hc11))
  have hc12 := Lib.hid (rom_to HS12.out (s ++ ⟨#[110, 101, 120, 116]⟩) (sz_cat HSZ.out (by decide)) (by have := HL.out; simp [len_turn, len_pulse]; omega) #[.int .u8 195] 1 rfl (by kernel_rfl) (by omega))
  go_upto_region 14 with (first
    | (go_at_call 12; refine hc12.out.mono ?_; rintro e w13 ⟨rfl, h, hb⟩; have HS13 := Lib.hid h; have HF13 := Lib.hid (HF12.out.trans hb); have GP13 := Lib.hid (GP12.out.frm hb (by decide) (by decide) (by decide)); have p13 : w13.cell? ⟨gp, 0, none⟩ = some (.pointer (some ⟨P, 0, none⟩)) := GP13.out.cell 0; have GT13 := Lib.hid (GT12.out.frm hb (by decide) (by decide) (by decide)); have t13_0 : w13.cell? ⟨gt, 0, none⟩ = some (.int .i64 t.pilot) := GT13.out.cell 0; have t13_1 : w13.cell? ⟨gt, 1, none⟩ = some (.int .i64 t.sync1) := GT13.out.cell 1; have t13_2 : w13.cell? ⟨gt, 2, none⟩ = some (.int .i64 t.sync2) := GT13.out.cell 2; have t13_3 : w13.cell? ⟨gt, 3, none⟩ = some (.int .i64 t.zero) := GT13.out.cell 3; have t13_4 : w13.cell? ⟨gt, 4, none⟩ = some (.int .i64 t.one) := GT13.out.cell 4; clear h hb p12 t12_0 t12_1 t12_2 t12_3 t12_4 hc12))
  have hc13 := Lib.hid (rom_mark HS13.out (s ++ ⟨#[110, 101, 120, 116]⟩) (sz_cat HSZ.out (by decide)) (by have := HL.out; simp [len_turn, len_pulse]; omega))
  go_upto_region 15 with (first
    | (go_at_call 14; refine hc13.out.mono ?_; rintro e w14 ⟨rfl, h, hb⟩; have HS14 := Lib.hid h; have HF14 := Lib.hid (HF13.out.trans hb); have GP14 := Lib.hid (GP13.out.frm hb (by decide) (by decide) (by decide)); have p14 : w14.cell? ⟨gp, 0, none⟩ = some (.pointer (some ⟨P, 0, none⟩)) := GP14.out.cell 0; have GT14 := Lib.hid (GT13.out.frm hb (by decide) (by decide) (by decide)); have t14_0 : w14.cell? ⟨gt, 0, none⟩ = some (.int .i64 t.pilot) := GT14.out.cell 0; have t14_1 : w14.cell? ⟨gt, 1, none⟩ = some (.int .i64 t.sync1) := GT14.out.cell 1; have t14_2 : w14.cell? ⟨gt, 2, none⟩ = some (.int .i64 t.sync2) := GT14.out.cell 2; have t14_3 : w14.cell? ⟨gt, 3, none⟩ = some (.int .i64 t.zero) := GT14.out.cell 3; have t14_4 : w14.cell? ⟨gt, 4, none⟩ = some (.int .i64 t.one) := GT14.out.cell 4; clear h hb p13 t13_0 t13_1 t13_2 t13_3 t13_4 hc13))
  have hc14 := Lib.hid (rom_bytes HS14.out #[.int .u8 13] 1 rfl (by kernel_rfl) (by omega))
  go_upto_region 16 with (first
    | (go_at_call 11; refine hc14.out.mono ?_; rintro e w15 ⟨rfl, h, hb⟩; have HS15 := Lib.hid h; have HF15 := Lib.hid (HF14.out.trans hb); have GP15 := Lib.hid (GP14.out.frm hb (by decide) (by decide) (by decide)); have p15 : w15.cell? ⟨gp, 0, none⟩ = some (.pointer (some ⟨P, 0, none⟩)) := GP15.out.cell 0; have GT15 := Lib.hid (GT14.out.frm hb (by decide) (by decide) (by decide)); have t15_0 : w15.cell? ⟨gt, 0, none⟩ = some (.int .i64 t.pilot) := GT15.out.cell 0; have t15_1 : w15.cell? ⟨gt, 1, none⟩ = some (.int .i64 t.sync1) := GT15.out.cell 1; have t15_2 : w15.cell? ⟨gt, 2, none⟩ = some (.int .i64 t.sync2) := GT15.out.cell 2; have t15_3 : w15.cell? ⟨gt, 3, none⟩ = some (.int .i64 t.zero) := GT15.out.cell 3; have t15_4 : w15.cell? ⟨gt, 4, none⟩ = some (.int .i64 t.one) := GT15.out.cell 4; clear h hb p14 t14_0 t14_1 t14_2 t14_3 t14_4 hc14))
  have hc15 := Lib.hid (rom_to HS15.out (s ++ ⟨#[112, 97, 100]⟩) (sz_cat HSZ.out (by decide)) (by have := HL.out; simp [len_turn, len_pulse]; omega) #[.int .u8 194] 1 rfl (by kernel_rfl) (by omega))
  go_upto_region 17 with (first
    | (go_at_call 12; refine hc15.out.mono ?_; rintro e w16 ⟨rfl, h, hb⟩; have HS16 := Lib.hid h; have HF16 := Lib.hid (HF15.out.trans hb); have GP16 := Lib.hid (GP15.out.frm hb (by decide) (by decide) (by decide)); have p16 : w16.cell? ⟨gp, 0, none⟩ = some (.pointer (some ⟨P, 0, none⟩)) := GP16.out.cell 0; have GT16 := Lib.hid (GT15.out.frm hb (by decide) (by decide) (by decide)); have t16_0 : w16.cell? ⟨gt, 0, none⟩ = some (.int .i64 t.pilot) := GT16.out.cell 0; have t16_1 : w16.cell? ⟨gt, 1, none⟩ = some (.int .i64 t.sync1) := GT16.out.cell 1; have t16_2 : w16.cell? ⟨gt, 2, none⟩ = some (.int .i64 t.sync2) := GT16.out.cell 2; have t16_3 : w16.cell? ⟨gt, 3, none⟩ = some (.int .i64 t.zero) := GT16.out.cell 3; have t16_4 : w16.cell? ⟨gt, 4, none⟩ = some (.int .i64 t.one) := GT16.out.cell 4; clear h hb p15 t15_0 t15_1 t15_2 t15_3 t15_4 hc15))
  have hc16 := Lib.hid (rom_bytes HS16.out #[.int .u8 71] 1 rfl (by kernel_rfl) (by omega))
  go_upto_region 18 with (first
    | (go_at_call 11; refine hc16.out.mono ?_; rintro e w17 ⟨rfl, h, hb⟩; have HS17 := Lib.hid h; have HF17 := Lib.hid (HF16.out.trans hb); have GP17 := Lib.hid (GP16.out.frm hb (by decide) (by decide) (by decide)); have p17 : w17.cell? ⟨gp, 0, none⟩ = some (.pointer (some ⟨P, 0, none⟩)) := GP17.out.cell 0; have GT17 := Lib.hid (GT16.out.frm hb (by decide) (by decide) (by decide)); have t17_0 : w17.cell? ⟨gt, 0, none⟩ = some (.int .i64 t.pilot) := GT17.out.cell 0; have t17_1 : w17.cell? ⟨gt, 1, none⟩ = some (.int .i64 t.sync1) := GT17.out.cell 1; have t17_2 : w17.cell? ⟨gt, 2, none⟩ = some (.int .i64 t.sync2) := GT17.out.cell 2; have t17_3 : w17.cell? ⟨gt, 3, none⟩ = some (.int .i64 t.zero) := GT17.out.cell 3; have t17_4 : w17.cell? ⟨gt, 4, none⟩ = some (.int .i64 t.one) := GT17.out.cell 4; clear h hb p16 t16_0 t16_1 t16_2 t16_3 t16_4 hc16))
  have hc17 := Lib.hid (rom_bytes HS17.out #[.int .u8 122, .int .u8 60] 2 rfl (by kernel_rfl) (by omega))
  go_upto_region 19 with (first
    | (go_at_call 11; refine hc17.out.mono ?_; rintro e w18 ⟨rfl, h, hb⟩; have HS18 := Lib.hid h; have HF18 := Lib.hid (HF17.out.trans hb); have GP18 := Lib.hid (GP17.out.frm hb (by decide) (by decide) (by decide)); have p18 : w18.cell? ⟨gp, 0, none⟩ = some (.pointer (some ⟨P, 0, none⟩)) := GP18.out.cell 0; have GT18 := Lib.hid (GT17.out.frm hb (by decide) (by decide) (by decide)); have t18_0 : w18.cell? ⟨gt, 0, none⟩ = some (.int .i64 t.pilot) := GT18.out.cell 0; have t18_1 : w18.cell? ⟨gt, 1, none⟩ = some (.int .i64 t.sync1) := GT18.out.cell 1; have t18_2 : w18.cell? ⟨gt, 2, none⟩ = some (.int .i64 t.sync2) := GT18.out.cell 2; have t18_3 : w18.cell? ⟨gt, 3, none⟩ = some (.int .i64 t.zero) := GT18.out.cell 3; have t18_4 : w18.cell? ⟨gt, 4, none⟩ = some (.int .i64 t.one) := GT18.out.cell 4; clear h hb p17 t17_0 t17_1 t17_2 t17_3 t17_4 hc17))
  have hc18 := Lib.hid (rom_to HS18.out (s ++ ⟨#[100, 111, 110, 101]⟩) (sz_cat HSZ.out (by decide)) (by have := HL.out; simp [len_turn, len_pulse]; omega) #[.int .u8 202] 1 rfl (by kernel_rfl) (by omega))
  go_wp2_with (first
    | (go_at_call 12; refine hc18.out.mono ?_; rintro e w19 ⟨rfl, h, hb⟩; have HS19 := Lib.hid h; have HF19 := Lib.hid (HF18.out.trans hb); have GP19 := Lib.hid (GP18.out.frm hb (by decide) (by decide) (by decide)); have p19 : w19.cell? ⟨gp, 0, none⟩ = some (.pointer (some ⟨P, 0, none⟩)) := GP19.out.cell 0; have GT19 := Lib.hid (GT18.out.frm hb (by decide) (by decide) (by decide)); have t19_0 : w19.cell? ⟨gt, 0, none⟩ = some (.int .i64 t.pilot) := GT19.out.cell 0; have t19_1 : w19.cell? ⟨gt, 1, none⟩ = some (.int .i64 t.sync1) := GT19.out.cell 1; have t19_2 : w19.cell? ⟨gt, 2, none⟩ = some (.int .i64 t.sync2) := GT19.out.cell 2; have t19_3 : w19.cell? ⟨gt, 3, none⟩ = some (.int .i64 t.zero) := GT19.out.cell 3; have t19_4 : w19.cell? ⟨gt, 4, none⟩ = some (.int .i64 t.one) := GT19.out.cell 4; clear h hb p18 t18_0 t18_1 t18_2 t18_3 t18_4 hc18))
  go_end0
  have e : L ++ p_bits s t = L ++ [opMark (s ++ ⟨#[112, 97, 100]⟩)] ++ [opDelay (108)] ++ [opTo (s ++ ⟨#[98, 105, 116]⟩) (lz #[.int .u8 195])] ++ [opMark (s ++ ⟨#[98, 105, 116]⟩)] ++ [opBytes (lz #[.int .u8 203, .int .u8 36])] ++ [opTo (s ++ ⟨#[111, 110, 101]⟩) (lz #[.int .u8 218])] ++ p_pulse (t.zero - 178) ++ p_pulse (t.zero - 18) ++ [opTo (s ++ ⟨#[110, 101, 120, 116]⟩) (lz #[.int .u8 195])] ++ [opMark (s ++ ⟨#[111, 110, 101]⟩)] ++ p_pulse (t.one - 178) ++ p_pulse (t.one - 18) ++ [opTo (s ++ ⟨#[110, 101, 120, 116]⟩) (lz #[.int .u8 195])] ++ [opMark (s ++ ⟨#[110, 101, 120, 116]⟩)] ++ [opBytes (lz #[.int .u8 13])] ++ [opTo (s ++ ⟨#[112, 97, 100]⟩) (lz #[.int .u8 194])] ++ [opBytes (lz #[.int .u8 71])] ++ [opBytes (lz #[.int .u8 122, .int .u8 60])] ++ [opTo (s ++ ⟨#[100, 111, 110, 101]⟩) (lz #[.int .u8 202])] := by simp [p_bits, lz, numV]
  rw [e]
  exact ⟨rfl, HS19.out, HF19.out⟩
theorem len_bits (s : ByteArray) (t : TimL) : (p_bits s t).length = 23 := by simp [p_bits, len_pulse, len_pulse, len_pulse, len_pulse]
def p_bytes (s : ByteArray) : List OpL := [opBytes [122, 179]] ++ [opTo (s ++ ⟨#[115, 117, 109]⟩) [202]] ++ [opBytes [27, 221, 102, 0]] ++ [opBytes [221, 35]] ++ [opBytes [125, 172, 111]] ++ [opTo (s ++ ⟨#[106, 111, 105, 110]⟩) [195]] ++ [opMark (s ++ ⟨#[115, 117, 109]⟩)] ++ [opBytes [27, 101]] ++ [opBytes [14, 0]] ++ [opTo (s ++ ⟨#[119, 97, 105, 116]⟩) [195]] ++ [opMark (s ++ ⟨#[119, 97, 105, 116]⟩)] ++ [opBytes [0, 0, 0, 0, 0]] ++ [opTo (s ++ ⟨#[106, 111, 105, 110]⟩) [195]] ++ [opMark (s ++ ⟨#[106, 111, 105, 110]⟩)] ++ [opBytes [120, 14, 8]] ++ [opTo (s ++ ⟨#[98, 105, 116]⟩) [195]] ++ [opMark (s ++ ⟨#[100, 111, 110, 101]⟩)] ++ [opDelay (3500)] ++ [opBytes [55, 201]]
set_option maxRecDepth 100000 in
set_option maxHeartbeats 8000000 in
theorem rp_bytes {B P M : Nat} {L : List OpL} {w : World} (h : RomS B P M L w) (hL : L.length ≤ 800) (s : ByteArray) (hs : s.size ≤ 10) :
    Calls Try.prog 33 #[progV P, .string s] w (RomR B P M (L ++ p_bytes s) w) := by
  have HL := Lib.hid hL
  have hb := below_alloc1 w (.cells #[.pointer (some ⟨P, 0, none⟩)] 39)
  have g0 := Blk.new w 39 [.pointer (some ⟨P, 0, none⟩)]
  obtain ⟨w0, hw0⟩ : ∃ u, u = w.alloc (.cells #[.pointer (some ⟨P, 0, none⟩)] 39) := ⟨_, rfl⟩
  obtain ⟨gp, hgp⟩ : ∃ g, g = w.heap.size := ⟨_, rfl⟩
  have GP0 : Hid (Blk w0 gp 39 [.pointer (some ⟨P, 0, none⟩)]) := Lib.hid (by rw [hw0, hgp]; exact g0)
  have HS0 : Hid (RomS B P M L w0) := Lib.hid (by rw [hw0]; exact h.below_ hb)
  have HF0 : Hid (Frm B w w0) := Lib.hid (by rw [hw0]; exact h.s.toB hb)
  have p0 : w0.cell? ⟨gp, 0, none⟩ = some (.pointer (some ⟨P, 0, none⟩)) := GP0.out.cell 0
  have HW := Lib.hid hw0
  have HGP := Lib.hid hgp
  clear h hb hw0 hgp g0 hL
  have HSZ := Lib.hid hs
  unfold progV
  go_enter Try.func33, Try.ntmps33
  go_upto_region 1 with fail
  rw [← HW.out, ← HGP.out]
  clear HW HGP
  have hc0 := Lib.hid (rom_bytes HS0.out #[.int .u8 122, .int .u8 179] 2 rfl (by kernel_rfl) (by omega))
  go_upto_region 2 with (first
    | (go_at_call 11; refine hc0.out.mono ?_; rintro e w1 ⟨rfl, h, hb⟩; have HS1 := Lib.hid h; have HF1 := Lib.hid (HF0.out.trans hb); have GP1 := Lib.hid (GP0.out.frm hb (by decide) (by decide) (by decide)); have p1 : w1.cell? ⟨gp, 0, none⟩ = some (.pointer (some ⟨P, 0, none⟩)) := GP1.out.cell 0; clear h hb p0 hc0))
  have hc1 := Lib.hid (rom_to HS1.out (s ++ ⟨#[115, 117, 109]⟩) (sz_cat HSZ.out (by decide)) (by have := HL.out; simp [len_turn, len_pulse]; omega) #[.int .u8 202] 1 rfl (by kernel_rfl) (by omega))
  go_upto_region 3 with (first
    | (go_at_call 12; refine hc1.out.mono ?_; rintro e w2 ⟨rfl, h, hb⟩; have HS2 := Lib.hid h; have HF2 := Lib.hid (HF1.out.trans hb); have GP2 := Lib.hid (GP1.out.frm hb (by decide) (by decide) (by decide)); have p2 : w2.cell? ⟨gp, 0, none⟩ = some (.pointer (some ⟨P, 0, none⟩)) := GP2.out.cell 0; clear h hb p1 hc1))
  have hc2 := Lib.hid (rom_bytes HS2.out #[.int .u8 27, .int .u8 221, .int .u8 102, .int .u8 0] 4 rfl (by kernel_rfl) (by omega))
  go_upto_region 4 with (first
    | (go_at_call 11; refine hc2.out.mono ?_; rintro e w3 ⟨rfl, h, hb⟩; have HS3 := Lib.hid h; have HF3 := Lib.hid (HF2.out.trans hb); have GP3 := Lib.hid (GP2.out.frm hb (by decide) (by decide) (by decide)); have p3 : w3.cell? ⟨gp, 0, none⟩ = some (.pointer (some ⟨P, 0, none⟩)) := GP3.out.cell 0; clear h hb p2 hc2))
  have hc3 := Lib.hid (rom_bytes HS3.out #[.int .u8 221, .int .u8 35] 2 rfl (by kernel_rfl) (by omega))
  go_upto_region 5 with (first
    | (go_at_call 11; refine hc3.out.mono ?_; rintro e w4 ⟨rfl, h, hb⟩; have HS4 := Lib.hid h; have HF4 := Lib.hid (HF3.out.trans hb); have GP4 := Lib.hid (GP3.out.frm hb (by decide) (by decide) (by decide)); have p4 : w4.cell? ⟨gp, 0, none⟩ = some (.pointer (some ⟨P, 0, none⟩)) := GP4.out.cell 0; clear h hb p3 hc3))
  have hc4 := Lib.hid (rom_bytes HS4.out #[.int .u8 125, .int .u8 172, .int .u8 111] 3 rfl (by kernel_rfl) (by omega))
  go_upto_region 6 with (first
    | (go_at_call 11; refine hc4.out.mono ?_; rintro e w5 ⟨rfl, h, hb⟩; have HS5 := Lib.hid h; have HF5 := Lib.hid (HF4.out.trans hb); have GP5 := Lib.hid (GP4.out.frm hb (by decide) (by decide) (by decide)); have p5 : w5.cell? ⟨gp, 0, none⟩ = some (.pointer (some ⟨P, 0, none⟩)) := GP5.out.cell 0; clear h hb p4 hc4))
  have hc5 := Lib.hid (rom_to HS5.out (s ++ ⟨#[106, 111, 105, 110]⟩) (sz_cat HSZ.out (by decide)) (by have := HL.out; simp [len_turn, len_pulse]; omega) #[.int .u8 195] 1 rfl (by kernel_rfl) (by omega))
  go_upto_region 7 with (first
    | (go_at_call 12; refine hc5.out.mono ?_; rintro e w6 ⟨rfl, h, hb⟩; have HS6 := Lib.hid h; have HF6 := Lib.hid (HF5.out.trans hb); have GP6 := Lib.hid (GP5.out.frm hb (by decide) (by decide) (by decide)); have p6 : w6.cell? ⟨gp, 0, none⟩ = some (.pointer (some ⟨P, 0, none⟩)) := GP6.out.cell 0; clear h hb p5 hc5))
  have hc6 := Lib.hid (rom_mark HS6.out (s ++ ⟨#[115, 117, 109]⟩) (sz_cat HSZ.out (by decide)) (by have := HL.out; simp [len_turn, len_pulse]; omega))
  go_upto_region 8 with (first
    | (go_at_call 14; refine hc6.out.mono ?_; rintro e w7 ⟨rfl, h, hb⟩; have HS7 := Lib.hid h; have HF7 := Lib.hid (HF6.out.trans hb); have GP7 := Lib.hid (GP6.out.frm hb (by decide) (by decide) (by decide)); have p7 : w7.cell? ⟨gp, 0, none⟩ = some (.pointer (some ⟨P, 0, none⟩)) := GP7.out.cell 0; clear h hb p6 hc6))
  have hc7 := Lib.hid (rom_bytes HS7.out #[.int .u8 27, .int .u8 101] 2 rfl (by kernel_rfl) (by omega))
  go_upto_region 9 with (first
    | (go_at_call 11; refine hc7.out.mono ?_; rintro e w8 ⟨rfl, h, hb⟩; have HS8 := Lib.hid h; have HF8 := Lib.hid (HF7.out.trans hb); have GP8 := Lib.hid (GP7.out.frm hb (by decide) (by decide) (by decide)); have p8 : w8.cell? ⟨gp, 0, none⟩ = some (.pointer (some ⟨P, 0, none⟩)) := GP8.out.cell 0; clear h hb p7 hc7))
  have hc8 := Lib.hid (rom_bytes HS8.out #[.int .u8 14, .int .u8 0] 2 rfl (by kernel_rfl) (by omega))
  go_upto_region 10 with (first
    | (go_at_call 11; refine hc8.out.mono ?_; rintro e w9 ⟨rfl, h, hb⟩; have HS9 := Lib.hid h; have HF9 := Lib.hid (HF8.out.trans hb); have GP9 := Lib.hid (GP8.out.frm hb (by decide) (by decide) (by decide)); have p9 : w9.cell? ⟨gp, 0, none⟩ = some (.pointer (some ⟨P, 0, none⟩)) := GP9.out.cell 0; clear h hb p8 hc8))
  have hc9 := Lib.hid (rom_to HS9.out (s ++ ⟨#[119, 97, 105, 116]⟩) (sz_cat HSZ.out (by decide)) (by have := HL.out; simp [len_turn, len_pulse]; omega) #[.int .u8 195] 1 rfl (by kernel_rfl) (by omega))
  go_upto_region 11 with (first
    | (go_at_call 12; refine hc9.out.mono ?_; rintro e w10 ⟨rfl, h, hb⟩; have HS10 := Lib.hid h; have HF10 := Lib.hid (HF9.out.trans hb); have GP10 := Lib.hid (GP9.out.frm hb (by decide) (by decide) (by decide)); have p10 : w10.cell? ⟨gp, 0, none⟩ = some (.pointer (some ⟨P, 0, none⟩)) := GP10.out.cell 0; clear h hb p9 hc9))
  have hc10 := Lib.hid (rom_mark HS10.out (s ++ ⟨#[119, 97, 105, 116]⟩) (sz_cat HSZ.out (by decide)) (by have := HL.out; simp [len_turn, len_pulse]; omega))
  go_upto_region 12 with (first
    | (go_at_call 14; refine hc10.out.mono ?_; rintro e w11 ⟨rfl, h, hb⟩; have HS11 := Lib.hid h; have HF11 := Lib.hid (HF10.out.trans hb); have GP11 := Lib.hid (GP10.out.frm hb (by decide) (by decide) (by decide)); have p11 : w11.cell? ⟨gp, 0, none⟩ = some (.pointer (some ⟨P, 0, none⟩)) := GP11.out.cell 0; clear h hb p10 hc10))
  have hc11 := Lib.hid (rom_bytes HS11.out #[.int .u8 0, .int .u8 0, .int .u8 0, .int .u8 0, .int .u8 0] 5 rfl (by kernel_rfl) (by omega))
  go_upto_region 13 with (first
    | (go_at_call 11; refine hc11.out.mono ?_; rintro e w12 ⟨rfl, h, hb⟩; have HS12 := Lib.hid h; have HF12 := Lib.hid (HF11.out.trans hb); have GP12 := Lib.hid (GP11.out.frm hb (by decide) (by decide) (by decide)); have p12 : w12.cell? ⟨gp, 0, none⟩ = some (.pointer (some ⟨P, 0, none⟩)) := GP12.out.cell 0; clear h hb p11 hc11))
  have hc12 := Lib.hid (rom_to HS12.out (s ++ ⟨#[106, 111, 105, 110]⟩) (sz_cat HSZ.out (by decide)) (by have := HL.out; simp [len_turn, len_pulse]; omega) #[.int .u8 195] 1 rfl (by kernel_rfl) (by omega))
  go_upto_region 14 with (first
    | (go_at_call 12; refine hc12.out.mono ?_; rintro e w13 ⟨rfl, h, hb⟩; have HS13 := Lib.hid h; have HF13 := Lib.hid (HF12.out.trans hb); have GP13 := Lib.hid (GP12.out.frm hb (by decide) (by decide) (by decide)); have p13 : w13.cell? ⟨gp, 0, none⟩ = some (.pointer (some ⟨P, 0, none⟩)) := GP13.out.cell 0; clear h hb p12 hc12))
  have hc13 := Lib.hid (rom_mark HS13.out (s ++ ⟨#[106, 111, 105, 110]⟩) (sz_cat HSZ.out (by decide)) (by have := HL.out; simp [len_turn, len_pulse]; omega))
  go_upto_region 15 with (first
    | (go_at_call 14; refine hc13.out.mono ?_; rintro e w14 ⟨rfl, h, hb⟩; have HS14 := Lib.hid h; have HF14 := Lib.hid (HF13.out.trans hb); have GP14 := Lib.hid (GP13.out.frm hb (by decide) (by decide) (by decide)); have p14 : w14.cell? ⟨gp, 0, none⟩ = some (.pointer (some ⟨P, 0, none⟩)) := GP14.out.cell 0; clear h hb p13 hc13))
  have hc14 := Lib.hid (rom_bytes HS14.out #[.int .u8 120, .int .u8 14, .int .u8 8] 3 rfl (by kernel_rfl) (by omega))
  go_upto_region 16 with (first
    | (go_at_call 11; refine hc14.out.mono ?_; rintro e w15 ⟨rfl, h, hb⟩; have HS15 := Lib.hid h; have HF15 := Lib.hid (HF14.out.trans hb); have GP15 := Lib.hid (GP14.out.frm hb (by decide) (by decide) (by decide)); have p15 : w15.cell? ⟨gp, 0, none⟩ = some (.pointer (some ⟨P, 0, none⟩)) := GP15.out.cell 0; clear h hb p14 hc14))
  have hc15 := Lib.hid (rom_to HS15.out (s ++ ⟨#[98, 105, 116]⟩) (sz_cat HSZ.out (by decide)) (by have := HL.out; simp [len_turn, len_pulse]; omega) #[.int .u8 195] 1 rfl (by kernel_rfl) (by omega))
  go_upto_region 17 with (first
    | (go_at_call 12; refine hc15.out.mono ?_; rintro e w16 ⟨rfl, h, hb⟩; have HS16 := Lib.hid h; have HF16 := Lib.hid (HF15.out.trans hb); have GP16 := Lib.hid (GP15.out.frm hb (by decide) (by decide) (by decide)); have p16 : w16.cell? ⟨gp, 0, none⟩ = some (.pointer (some ⟨P, 0, none⟩)) := GP16.out.cell 0; clear h hb p15 hc15))
  have hc16 := Lib.hid (rom_mark HS16.out (s ++ ⟨#[100, 111, 110, 101]⟩) (sz_cat HSZ.out (by decide)) (by have := HL.out; simp [len_turn, len_pulse]; omega))
  go_upto_region 18 with (first
    | (go_at_call 14; refine hc16.out.mono ?_; rintro e w17 ⟨rfl, h, hb⟩; have HS17 := Lib.hid h; have HF17 := Lib.hid (HF16.out.trans hb); have GP17 := Lib.hid (GP16.out.frm hb (by decide) (by decide) (by decide)); have p17 : w17.cell? ⟨gp, 0, none⟩ = some (.pointer (some ⟨P, 0, none⟩)) := GP17.out.cell 0; clear h hb p16 hc16))
  have hc17 := Lib.hid (rom_delay HS17.out (3500) (by omega) (by omega))
  go_upto_region 19 with (first
    | (go_at_call 35; refine hc17.out.mono ?_; rintro e w18 ⟨rfl, h, hb⟩; have HS18 := Lib.hid h; have HF18 := Lib.hid (HF17.out.trans hb); have GP18 := Lib.hid (GP17.out.frm hb (by decide) (by decide) (by decide)); have p18 : w18.cell? ⟨gp, 0, none⟩ = some (.pointer (some ⟨P, 0, none⟩)) := GP18.out.cell 0; clear h hb p17 hc17))
  have hc18 := Lib.hid (rom_bytes HS18.out #[.int .u8 55, .int .u8 201] 2 rfl (by kernel_rfl) (by omega))
  go_wp2_with (first
    | (go_at_call 11; refine hc18.out.mono ?_; rintro e w19 ⟨rfl, h, hb⟩; have HS19 := Lib.hid h; have HF19 := Lib.hid (HF18.out.trans hb); have GP19 := Lib.hid (GP18.out.frm hb (by decide) (by decide) (by decide)); have p19 : w19.cell? ⟨gp, 0, none⟩ = some (.pointer (some ⟨P, 0, none⟩)) := GP19.out.cell 0; clear h hb p18 hc18))
  go_end0
  have e : L ++ p_bytes s = L ++ [opBytes (lz #[.int .u8 122, .int .u8 179])] ++ [opTo (s ++ ⟨#[115, 117, 109]⟩) (lz #[.int .u8 202])] ++ [opBytes (lz #[.int .u8 27, .int .u8 221, .int .u8 102, .int .u8 0])] ++ [opBytes (lz #[.int .u8 221, .int .u8 35])] ++ [opBytes (lz #[.int .u8 125, .int .u8 172, .int .u8 111])] ++ [opTo (s ++ ⟨#[106, 111, 105, 110]⟩) (lz #[.int .u8 195])] ++ [opMark (s ++ ⟨#[115, 117, 109]⟩)] ++ [opBytes (lz #[.int .u8 27, .int .u8 101])] ++ [opBytes (lz #[.int .u8 14, .int .u8 0])] ++ [opTo (s ++ ⟨#[119, 97, 105, 116]⟩) (lz #[.int .u8 195])] ++ [opMark (s ++ ⟨#[119, 97, 105, 116]⟩)] ++ [opBytes (lz #[.int .u8 0, .int .u8 0, .int .u8 0, .int .u8 0, .int .u8 0])] ++ [opTo (s ++ ⟨#[106, 111, 105, 110]⟩) (lz #[.int .u8 195])] ++ [opMark (s ++ ⟨#[106, 111, 105, 110]⟩)] ++ [opBytes (lz #[.int .u8 120, .int .u8 14, .int .u8 8])] ++ [opTo (s ++ ⟨#[98, 105, 116]⟩) (lz #[.int .u8 195])] ++ [opMark (s ++ ⟨#[100, 111, 110, 101]⟩)] ++ [opDelay (3500)] ++ [opBytes (lz #[.int .u8 55, .int .u8 201])] := by simp [p_bytes, lz, numV]
  rw [e]
  exact ⟨rfl, HS19.out, HF19.out⟩
theorem len_bytes (s : ByteArray) : (p_bytes s).length = 19 := by simp [p_bytes]
end Go.Proofs.Ytnkjmmbhjhmgdaa
