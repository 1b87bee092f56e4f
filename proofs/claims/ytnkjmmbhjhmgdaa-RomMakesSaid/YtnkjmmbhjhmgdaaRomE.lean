/- A ROM that is put together: its parts. -/
import Derived.Test.YtnkjmmbhjhmgdaaRomD
namespace Go.Proofs.Ytnkjmmbhjhmgdaa
set_option linter.unusedSimpArgs false
set_option linter.unusedVariables false
open Go.RowKit Go.Maps Go.Sort
def p_load : List OpL := [opMark ⟨#[108, 111, 97, 100]⟩] ++ [opBytes [8, 62, 127, 219, 254]] ++ [opBytes [31, 230, 32, 79]] ++ [opMark ⟨#[114, 101, 115, 116, 97, 114, 116]⟩] ++ [opBytes [46, 0]] ++ [opMark ⟨#[112, 105, 108, 111, 116]⟩] ++ p_heard (⟨#[108, 111, 110, 103]⟩) ++ [opNear ⟨#[114, 101, 115, 116, 97, 114, 116]⟩ 56] ++ [opBytes [44]] ++ [opNear ⟨#[112, 105, 108, 111, 116]⟩ 32] ++ [opMark ⟨#[115, 121, 110, 99]⟩] ++ p_heard (⟨#[115, 104, 111, 114, 116]⟩) ++ [opNear ⟨#[115, 121, 110, 99]⟩ 48] ++ [opBytes [6, 0]] ++ p_called (⟨#[101, 100, 103, 101]⟩) ++ [opBytes [38, 0]] ++ p_called (⟨#[98, 121, 116, 101]⟩) ++ [opBytes [8, 189]] ++ [opNear ⟨#[98, 97, 100]⟩ 32] ++ [opBytes [122, 179]] ++ [opNear ⟨#[108, 97, 115, 116]⟩ 40] ++ [opMark ⟨#[100, 97, 116, 97]⟩] ++ p_called (⟨#[98, 121, 116, 101]⟩) ++ [opBytes [221, 117, 0, 221, 35]] ++ [opBytes [27, 122, 179]] ++ [opNear ⟨#[100, 97, 116, 97]⟩ 32] ++ [opMark ⟨#[108, 97, 115, 116]⟩] ++ p_called (⟨#[98, 121, 116, 101]⟩) ++ [opBytes [124, 183]] ++ [opNear ⟨#[98, 97, 100]⟩ 32] ++ [opBytes [55, 201]] ++ [opMark ⟨#[102, 97, 105, 108]⟩] ++ [opNear ⟨#[98, 114, 101, 97, 107]⟩ 32] ++ [opMark ⟨#[98, 97, 100]⟩] ++ [opBytes [175, 201]] ++ [opMark ⟨#[98, 114, 101, 97, 107]⟩] ++ [opBytes [62, 1, 183, 201]]
set_option maxRecDepth 100000 in
set_option maxHeartbeats 8000000 in
theorem rp_load {B P M : Nat} {L : List OpL} {w : World} (h : RomS B P M L w) (hL : L.length ≤ 650) :
    Calls Try.prog 17 #[progV P] w (RomR B P M (L ++ p_load) w) := by
  have HL := Lib.hid hL
  have hb := below_alloc1 w (.cells #[.pointer (some ⟨P, 0, none⟩)] 39)
  have g0 := Blk.new w 39 [.pointer (some ⟨P, 0, none⟩)]
  obtain ⟨w0, hw0⟩ : ∃ u, u = w.alloc (.cells #[.pointer (some ⟨P, 0, none⟩)] 39) := ⟨_, rfl⟩
  obtain ⟨gp, hgp⟩ : ∃ g, g = w.heap.size := ⟨_, rfl⟩
  have GP0 : Hid (Blk w0 gp 39 [.pointer (some ⟨P, 0, none⟩)]) := Lib.hid (by rw [hw0, hgp]; exact g0)
  have HS0 : Hid (RomS B P M L w0) := Lib.hid (by rw [hw0]; exact h.below_ hb)
  have HF0 : Hid (Frm B w w0) := Lib.hid (by rw [hw0]; exact h.s.toB hb)
  have p0 : w0.cell? ⟨gp, 0, none⟩ = some (.pointer (some ⟨P, 0, none⟩)) := GP0.out.cell 0
  have HW := Lib.hid hw0
  have HGP := Lib.hid hgp
  clear h hb hw0 hgp g0 hL
  unfold progV
  go_enter Try.func17, Try.ntmps17
  go_upto_region 1 with fail
  rw [← HW.out, ← HGP.out]
  clear HW HGP
  have hc0 := Lib.hid (rom_mark HS0.out ⟨#[108, 111, 97, 100]⟩ (by decide) (by have := HL.out; simp [len_count, len_heard, len_called]; omega))
  go_upto_region 2 with (first
    | (go_at_call 14; refine hc0.out.mono ?_; rintro e w1 ⟨rfl, h, hb⟩; have HS1 := Lib.hid h; have HF1 := Lib.hid (HF0.out.trans hb); have GP1 := Lib.hid (GP0.out.frm hb (by decide) (by decide) (by decide)); have p1 : w1.cell? ⟨gp, 0, none⟩ = some (.pointer (some ⟨P, 0, none⟩)) := GP1.out.cell 0; clear h hb p0 hc0))
  have hc1 := Lib.hid (rom_bytes HS1.out #[.int .u8 8, .int .u8 62, .int .u8 127, .int .u8 219, .int .u8 254] 5 rfl (by kernel_rfl) (by omega))
  go_upto_region 3 with (first
    | (go_at_call 11; refine hc1.out.mono ?_; rintro e w2 ⟨rfl, h, hb⟩; have HS2 := Lib.hid h; have HF2 := Lib.hid (HF1.out.trans hb); have GP2 := Lib.hid (GP1.out.frm hb (by decide) (by decide) (by decide)); have p2 : w2.cell? ⟨gp, 0, none⟩ = some (.pointer (some ⟨P, 0, none⟩)) := GP2.out.cell 0; clear h hb p1 hc1))
  have hc2 := Lib.hid (rom_bytes HS2.out #[.int .u8 31, .int .u8 230, .int .u8 32, .int .u8 79] 4 rfl (by kernel_rfl) (by omega))
  go_upto_region 4 with (first
    | (go_at_call 11; refine hc2.out.mono ?_; rintro e w3 ⟨rfl, h, hb⟩; have HS3 := Lib.hid h; have HF3 := Lib.hid (HF2.out.trans hb); have GP3 := Lib.hid (GP2.out.frm hb (by decide) (by decide) (by decide)); have p3 : w3.cell? ⟨gp, 0, none⟩ = some (.pointer (some ⟨P, 0, none⟩)) := GP3.out.cell 0; clear h hb p2 hc2))
  have hc3 := Lib.hid (rom_mark HS3.out ⟨#[114, 101, 115, 116, 97, 114, 116]⟩ (by decide) (by have := HL.out; simp [len_count, len_heard, len_called]; omega))
  go_upto_region 5 with (first
    | (go_at_call 14; refine hc3.out.mono ?_; rintro e w4 ⟨rfl, h, hb⟩; have HS4 := Lib.hid h; have HF4 := Lib.hid (HF3.out.trans hb); have GP4 := Lib.hid (GP3.out.frm hb (by decide) (by decide) (by decide)); have p4 : w4.cell? ⟨gp, 0, none⟩ = some (.pointer (some ⟨P, 0, none⟩)) := GP4.out.cell 0; clear h hb p3 hc3))
  have hc4 := Lib.hid (rom_bytes HS4.out #[.int .u8 46, .int .u8 0] 2 rfl (by kernel_rfl) (by omega))
  go_upto_region 6 with (first
    | (go_at_call 11; refine hc4.out.mono ?_; rintro e w5 ⟨rfl, h, hb⟩; have HS5 := Lib.hid h; have HF5 := Lib.hid (HF4.out.trans hb); have GP5 := Lib.hid (GP4.out.frm hb (by decide) (by decide) (by decide)); have p5 : w5.cell? ⟨gp, 0, none⟩ = some (.pointer (some ⟨P, 0, none⟩)) := GP5.out.cell 0; clear h hb p4 hc4))
  have hc5 := Lib.hid (rom_mark HS5.out ⟨#[112, 105, 108, 111, 116]⟩ (by decide) (by have := HL.out; simp [len_count, len_heard, len_called]; omega))
  go_upto_region 7 with (first
    | (go_at_call 14; refine hc5.out.mono ?_; rintro e w6 ⟨rfl, h, hb⟩; have HS6 := Lib.hid h; have HF6 := Lib.hid (HF5.out.trans hb); have GP6 := Lib.hid (GP5.out.frm hb (by decide) (by decide) (by decide)); have p6 : w6.cell? ⟨gp, 0, none⟩ = some (.pointer (some ⟨P, 0, none⟩)) := GP6.out.cell 0; clear h hb p5 hc5))
  have hc6 := Lib.hid (rp_heard HS6.out (by have := HL.out; simp [len_count, len_heard, len_called]; omega) (⟨#[108, 111, 110, 103]⟩) (by decide))
  go_upto_region 8 with (first
    | (go_at_call 28; refine hc6.out.mono ?_; rintro e w7 ⟨rfl, h, hb⟩; have HS7 := Lib.hid h; have HF7 := Lib.hid (HF6.out.trans hb); have GP7 := Lib.hid (GP6.out.frm hb (by decide) (by decide) (by decide)); have p7 : w7.cell? ⟨gp, 0, none⟩ = some (.pointer (some ⟨P, 0, none⟩)) := GP7.out.cell 0; clear h hb p6 hc6))
  have hc7 := Lib.hid (rom_near HS7.out ⟨#[114, 101, 115, 116, 97, 114, 116]⟩ (by decide) (by have := HL.out; simp [len_count, len_heard, len_called]; omega) 56 (by omega) (by omega))
  go_upto_region 9 with (first
    | (go_at_call 15; refine hc7.out.mono ?_; rintro e w8 ⟨rfl, h, hb⟩; have HS8 := Lib.hid h; have HF8 := Lib.hid (HF7.out.trans hb); have GP8 := Lib.hid (GP7.out.frm hb (by decide) (by decide) (by decide)); have p8 : w8.cell? ⟨gp, 0, none⟩ = some (.pointer (some ⟨P, 0, none⟩)) := GP8.out.cell 0; clear h hb p7 hc7))
  have hc8 := Lib.hid (rom_bytes HS8.out #[.int .u8 44] 1 rfl (by kernel_rfl) (by omega))
  go_upto_region 10 with (first
    | (go_at_call 11; refine hc8.out.mono ?_; rintro e w9 ⟨rfl, h, hb⟩; have HS9 := Lib.hid h; have HF9 := Lib.hid (HF8.out.trans hb); have GP9 := Lib.hid (GP8.out.frm hb (by decide) (by decide) (by decide)); have p9 : w9.cell? ⟨gp, 0, none⟩ = some (.pointer (some ⟨P, 0, none⟩)) := GP9.out.cell 0; clear h hb p8 hc8))
  have hc9 := Lib.hid (rom_near HS9.out ⟨#[112, 105, 108, 111, 116]⟩ (by decide) (by have := HL.out; simp [len_count, len_heard, len_called]; omega) 32 (by omega) (by omega))
  go_upto_region 11 with (first
    | (go_at_call 15; refine hc9.out.mono ?_; rintro e w10 ⟨rfl, h, hb⟩; have HS10 := Lib.hid h; have HF10 := Lib.hid (HF9.out.trans hb); have GP10 := Lib.hid (GP9.out.frm hb (by decide) (by decide) (by decide)); have p10 : w10.cell? ⟨gp, 0, none⟩ = some (.pointer (some ⟨P, 0, none⟩)) := GP10.out.cell 0; clear h hb p9 hc9))
  have hc10 := Lib.hid (rom_mark HS10.out ⟨#[115, 121, 110, 99]⟩ (by decide) (by have := HL.out; simp [len_count, len_heard, len_called]; omega))
  go_upto_region 12 with (first
    | (go_at_call 14; refine hc10.out.mono ?_; rintro e w11 ⟨rfl, h, hb⟩; have HS11 := Lib.hid h; have HF11 := Lib.hid (HF10.out.trans hb); have GP11 := Lib.hid (GP10.out.frm hb (by decide) (by decide) (by decide)); have p11 : w11.cell? ⟨gp, 0, none⟩ = some (.pointer (some ⟨P, 0, none⟩)) := GP11.out.cell 0; clear h hb p10 hc10))
  have hc11 := Lib.hid (rp_heard HS11.out (by have := HL.out; simp [len_count, len_heard, len_called]; omega) (⟨#[115, 104, 111, 114, 116]⟩) (by decide))
  go_upto_region 13 with (first
    | (go_at_call 28; refine hc11.out.mono ?_; rintro e w12 ⟨rfl, h, hb⟩; have HS12 := Lib.hid h; have HF12 := Lib.hid (HF11.out.trans hb); have GP12 := Lib.hid (GP11.out.frm hb (by decide) (by decide) (by decide)); have p12 : w12.cell? ⟨gp, 0, none⟩ = some (.pointer (some ⟨P, 0, none⟩)) := GP12.out.cell 0; clear h hb p11 hc11))
  have hc12 := Lib.hid (rom_near HS12.out ⟨#[115, 121, 110, 99]⟩ (by decide) (by have := HL.out; simp [len_count, len_heard, len_called]; omega) 48 (by omega) (by omega))
  go_upto_region 14 with (first
    | (go_at_call 15; refine hc12.out.mono ?_; rintro e w13 ⟨rfl, h, hb⟩; have HS13 := Lib.hid h; have HF13 := Lib.hid (HF12.out.trans hb); have GP13 := Lib.hid (GP12.out.frm hb (by decide) (by decide) (by decide)); have p13 : w13.cell? ⟨gp, 0, none⟩ = some (.pointer (some ⟨P, 0, none⟩)) := GP13.out.cell 0; clear h hb p12 hc12))
  have hc13 := Lib.hid (rom_bytes HS13.out #[.int .u8 6, .int .u8 0] 2 rfl (by kernel_rfl) (by omega))
  go_upto_region 15 with (first
    | (go_at_call 11; refine hc13.out.mono ?_; rintro e w14 ⟨rfl, h, hb⟩; have HS14 := Lib.hid h; have HF14 := Lib.hid (HF13.out.trans hb); have GP14 := Lib.hid (GP13.out.frm hb (by decide) (by decide) (by decide)); have p14 : w14.cell? ⟨gp, 0, none⟩ = some (.pointer (some ⟨P, 0, none⟩)) := GP14.out.cell 0; clear h hb p13 hc13))
  have hc14 := Lib.hid (rp_called HS14.out (by have := HL.out; simp [len_count, len_heard, len_called]; omega) (⟨#[101, 100, 103, 101]⟩) (by decide))
  go_upto_region 16 with (first
    | (go_at_call 29; refine hc14.out.mono ?_; rintro e w15 ⟨rfl, h, hb⟩; have HS15 := Lib.hid h; have HF15 := Lib.hid (HF14.out.trans hb); have GP15 := Lib.hid (GP14.out.frm hb (by decide) (by decide) (by decide)); have p15 : w15.cell? ⟨gp, 0, none⟩ = some (.pointer (some ⟨P, 0, none⟩)) := GP15.out.cell 0; clear h hb p14 hc14))
  have hc15 := Lib.hid (rom_bytes HS15.out #[.int .u8 38, .int .u8 0] 2 rfl (by kernel_rfl) (by omega))
  go_upto_region 17 with (first
    | (go_at_call 11; refine hc15.out.mono ?_; rintro e w16 ⟨rfl, h, hb⟩; have HS16 := Lib.hid h; have HF16 := Lib.hid (HF15.out.trans hb); have GP16 := Lib.hid (GP15.out.frm hb (by decide) (by decide) (by decide)); have p16 : w16.cell? ⟨gp, 0, none⟩ = some (.pointer (some ⟨P, 0, none⟩)) := GP16.out.cell 0; clear h hb p15 hc15))
  have hc16 := Lib.hid (rp_called HS16.out (by have := HL.out; simp [len_count, len_heard, len_called]; omega) (⟨#[98, 121, 116, 101]⟩) (by decide))
  go_upto_region 18 with (first
    | (go_at_call 29; refine hc16.out.mono ?_; rintro e w17 ⟨rfl, h, hb⟩; have HS17 := Lib.hid h; have HF17 := Lib.hid (HF16.out.trans hb); have GP17 := Lib.hid (GP16.out.frm hb (by decide) (by decide) (by decide)); have p17 : w17.cell? ⟨gp, 0, none⟩ = some (.pointer (some ⟨P, 0, none⟩)) := GP17.out.cell 0; clear h hb p16 hc16))
  have hc17 := Lib.hid (rom_bytes HS17.out #[.int .u8 8, .int .u8 189] 2 rfl (by kernel_rfl) (by omega))
  go_upto_region 19 with (first
    | (go_at_call 11; refine hc17.out.mono ?_; rintro e w18 ⟨rfl, h, hb⟩; have HS18 := Lib.hid h; have HF18 := Lib.hid (HF17.out.trans hb); have GP18 := Lib.hid (GP17.out.frm hb (by decide) (by decide) (by decide)); have p18 : w18.cell? ⟨gp, 0, none⟩ = some (.pointer (some ⟨P, 0, none⟩)) := GP18.out.cell 0; clear h hb p17 hc17))
  have hc18 := Lib.hid (rom_near HS18.out ⟨#[98, 97, 100]⟩ (by decide) (by have := HL.out; simp [len_count, len_heard, len_called]; omega) 32 (by omega) (by omega))
  go_upto_region 20 with (first
    | (go_at_call 15; refine hc18.out.mono ?_; rintro e w19 ⟨rfl, h, hb⟩; have HS19 := Lib.hid h; have HF19 := Lib.hid (HF18.out.trans hb); have GP19 := Lib.hid (GP18.out.frm hb (by decide) (by decide) (by decide)); have p19 : w19.cell? ⟨gp, 0, none⟩ = some (.pointer (some ⟨P, 0, none⟩)) := GP19.out.cell 0; clear h hb p18 hc18))
  have hc19 := Lib.hid (rom_bytes HS19.out #[.int .u8 122, .int .u8 179] 2 rfl (by kernel_rfl) (by omega))
  go_upto_region 21 with (first
    | (go_at_call 11; refine hc19.out.mono ?_; rintro e w20 ⟨rfl, h, hb⟩; have HS20 := Lib.hid h; have HF20 := Lib.hid (HF19.out.trans hb); have GP20 := Lib.hid (GP19.out.frm hb (by decide) (by decide) (by decide)); have p20 : w20.cell? ⟨gp, 0, none⟩ = some (.pointer (some ⟨P, 0, none⟩)) := GP20.out.cell 0; clear h hb p19 hc19))
  have hc20 := Lib.hid (rom_near HS20.out ⟨#[108, 97, 115, 116]⟩ (by decide) (by have := HL.out; simp [len_count, len_heard, len_called]; omega) 40 (by omega) (by omega))
  go_upto_region 22 with (first
    | (go_at_call 15; refine hc20.out.mono ?_; rintro e w21 ⟨rfl, h, hb⟩; have HS21 := Lib.hid h; have HF21 := Lib.hid (HF20.out.trans hb); have GP21 := Lib.hid (GP20.out.frm hb (by decide) (by decide) (by decide)); have p21 : w21.cell? ⟨gp, 0, none⟩ = some (.pointer (some ⟨P, 0, none⟩)) := GP21.out.cell 0; clear h hb p20 hc20))
  have hc21 := Lib.hid (rom_mark HS21.out ⟨#[100, 97, 116, 97]⟩ (by decide) (by have := HL.out; simp [len_count, len_heard, len_called]; omega))
  go_upto_region 23 with (first
    | (go_at_call 14; refine hc21.out.mono ?_; rintro e w22 ⟨rfl, h, hb⟩; have HS22 := Lib.hid h; have HF22 := Lib.hid (HF21.out.trans hb); have GP22 := Lib.hid (GP21.out.frm hb (by decide) (by decide) (by decide)); have p22 : w22.cell? ⟨gp, 0, none⟩ = some (.pointer (some ⟨P, 0, none⟩)) := GP22.out.cell 0; clear h hb p21 hc21))
  have hc22 := Lib.hid (rp_called HS22.out (by have := HL.out; simp [len_count, len_heard, len_called]; omega) (⟨#[98, 121, 116, 101]⟩) (by decide))
  go_upto_region 24 with (first
    | (go_at_call 29; refine hc22.out.mono ?_; rintro e w23 ⟨rfl, h, hb⟩; have HS23 := Lib.hid h; have HF23 := Lib.hid (HF22.out.trans hb); have GP23 := Lib.hid (GP22.out.frm hb (by decide) (by decide) (by decide)); have p23 : w23.cell? ⟨gp, 0, none⟩ = some (.pointer (some ⟨P, 0, none⟩)) := GP23.out.cell 0; clear h hb p22 hc22))
  have hc23 := Lib.hid (rom_bytes HS23.out #[.int .u8 221, .int .u8 117, .int .u8 0, .int .u8 221, .int .u8 35] 5 rfl (by kernel_rfl) (by omega))
  go_upto_region 25 with (first
    | (go_at_call 11; refine hc23.out.mono ?_; rintro e w24 ⟨rfl, h, hb⟩; have HS24 := Lib.hid h; have HF24 := Lib.hid (HF23.out.trans hb); have GP24 := Lib.hid (GP23.out.frm hb (by decide) (by decide) (by decide)); have p24 : w24.cell? ⟨gp, 0, none⟩ = some (.pointer (some ⟨P, 0, none⟩)) := GP24.out.cell 0; clear h hb p23 hc23))
  have hc24 := Lib.hid (rom_bytes HS24.out #[.int .u8 27, .int .u8 122, .int .u8 179] 3 rfl (by kernel_rfl) (by omega))
  go_upto_region 26 with (first
    | (go_at_call 11; refine hc24.out.mono ?_; rintro e w25 ⟨rfl, h, hb⟩; have HS25 := Lib.hid h; have HF25 := Lib.hid (HF24.out.trans hb); have GP25 := Lib.hid (GP24.out.frm hb (by decide) (by decide) (by decide)); have p25 : w25.cell? ⟨gp, 0, none⟩ = some (.pointer (some ⟨P, 0, none⟩)) := GP25.out.cell 0; clear h hb p24 hc24))
  have hc25 := Lib.hid (rom_near HS25.out ⟨#[100, 97, 116, 97]⟩ (by decide) (by have := HL.out; simp [len_count, len_heard, len_called]; omega) 32 (by omega) (by omega))
  go_upto_region 27 with (first
    | (go_at_call 15; refine hc25.out.mono ?_; rintro e w26 ⟨rfl, h, hb⟩; have HS26 := Lib.hid h; have HF26 := Lib.hid (HF25.out.trans hb); have GP26 := Lib.hid (GP25.out.frm hb (by decide) (by decide) (by decide)); have p26 : w26.cell? ⟨gp, 0, none⟩ = some (.pointer (some ⟨P, 0, none⟩)) := GP26.out.cell 0; clear h hb p25 hc25))
  have hc26 := Lib.hid (rom_mark HS26.out ⟨#[108, 97, 115, 116]⟩ (by decide) (by have := HL.out; simp [len_count, len_heard, len_called]; omega))
  go_upto_region 28 with (first
    | (go_at_call 14; refine hc26.out.mono ?_; rintro e w27 ⟨rfl, h, hb⟩; have HS27 := Lib.hid h; have HF27 := Lib.hid (HF26.out.trans hb); have GP27 := Lib.hid (GP26.out.frm hb (by decide) (by decide) (by decide)); have p27 : w27.cell? ⟨gp, 0, none⟩ = some (.pointer (some ⟨P, 0, none⟩)) := GP27.out.cell 0; clear h hb p26 hc26))
  have hc27 := Lib.hid (rp_called HS27.out (by have := HL.out; simp [len_count, len_heard, len_called]; omega) (⟨#[98, 121, 116, 101]⟩) (by decide))
  go_upto_region 29 with (first
    | (go_at_call 29; refine hc27.out.mono ?_; rintro e w28 ⟨rfl, h, hb⟩; have HS28 := Lib.hid h; have HF28 := Lib.hid (HF27.out.trans hb); have GP28 := Lib.hid (GP27.out.frm hb (by decide) (by decide) (by decide)); have p28 : w28.cell? ⟨gp, 0, none⟩ = some (.pointer (some ⟨P, 0, none⟩)) := GP28.out.cell 0; clear h hb p27 hc27))
  have hc28 := Lib.hid (rom_bytes HS28.out #[.int .u8 124, .int .u8 183] 2 rfl (by kernel_rfl) (by omega))
  go_upto_region 30 with (first
    | (go_at_call 11; refine hc28.out.mono ?_; rintro e w29 ⟨rfl, h, hb⟩; have HS29 := Lib.hid h; have HF29 := Lib.hid (HF28.out.trans hb); have GP29 := Lib.hid (GP28.out.frm hb (by decide) (by decide) (by decide)); have p29 : w29.cell? ⟨gp, 0, none⟩ = some (.pointer (some ⟨P, 0, none⟩)) := GP29.out.cell 0; clear h hb p28 hc28))
  have hc29 := Lib.hid (rom_near HS29.out ⟨#[98, 97, 100]⟩ (by decide) (by have := HL.out; simp [len_count, len_heard, len_called]; omega) 32 (by omega) (by omega))
  go_upto_region 31 with (first
    | (go_at_call 15; refine hc29.out.mono ?_; rintro e w30 ⟨rfl, h, hb⟩; have HS30 := Lib.hid h; have HF30 := Lib.hid (HF29.out.trans hb); have GP30 := Lib.hid (GP29.out.frm hb (by decide) (by decide) (by decide)); have p30 : w30.cell? ⟨gp, 0, none⟩ = some (.pointer (some ⟨P, 0, none⟩)) := GP30.out.cell 0; clear h hb p29 hc29))
  have hc30 := Lib.hid (rom_bytes HS30.out #[.int .u8 55, .int .u8 201] 2 rfl (by kernel_rfl) (by omega))
  go_upto_region 32 with (first
    | (go_at_call 11; refine hc30.out.mono ?_; rintro e w31 ⟨rfl, h, hb⟩; have HS31 := Lib.hid h; have HF31 := Lib.hid (HF30.out.trans hb); have GP31 := Lib.hid (GP30.out.frm hb (by decide) (by decide) (by decide)); have p31 : w31.cell? ⟨gp, 0, none⟩ = some (.pointer (some ⟨P, 0, none⟩)) := GP31.out.cell 0; clear h hb p30 hc30))
  have hc31 := Lib.hid (rom_mark HS31.out ⟨#[102, 97, 105, 108]⟩ (by decide) (by have := HL.out; simp [len_count, len_heard, len_called]; omega))
  go_upto_region 33 with (first
    | (go_at_call 14; refine hc31.out.mono ?_; rintro e w32 ⟨rfl, h, hb⟩; have HS32 := Lib.hid h; have HF32 := Lib.hid (HF31.out.trans hb); have GP32 := Lib.hid (GP31.out.frm hb (by decide) (by decide) (by decide)); have p32 : w32.cell? ⟨gp, 0, none⟩ = some (.pointer (some ⟨P, 0, none⟩)) := GP32.out.cell 0; clear h hb p31 hc31))
  have hc32 := Lib.hid (rom_near HS32.out ⟨#[98, 114, 101, 97, 107]⟩ (by decide) (by have := HL.out; simp [len_count, len_heard, len_called]; omega) 32 (by omega) (by omega))
  go_upto_region 34 with (first
    | (go_at_call 15; refine hc32.out.mono ?_; rintro e w33 ⟨rfl, h, hb⟩; have HS33 := Lib.hid h; have HF33 := Lib.hid (HF32.out.trans hb); have GP33 := Lib.hid (GP32.out.frm hb (by decide) (by decide) (by decide)); have p33 : w33.cell? ⟨gp, 0, none⟩ = some (.pointer (some ⟨P, 0, none⟩)) := GP33.out.cell 0; clear h hb p32 hc32))
  have hc33 := Lib.hid (rom_mark HS33.out ⟨#[98, 97, 100]⟩ (by decide) (by have := HL.out; simp [len_count, len_heard, len_called]; omega))
  go_upto_region 35 with (first
    | (go_at_call 14; refine hc33.out.mono ?_; rintro e w34 ⟨rfl, h, hb⟩; have HS34 := Lib.hid h; have HF34 := Lib.hid (HF33.out.trans hb); have GP34 := Lib.hid (GP33.out.frm hb (by decide) (by decide) (by decide)); have p34 : w34.cell? ⟨gp, 0, none⟩ = some (.pointer (some ⟨P, 0, none⟩)) := GP34.out.cell 0; clear h hb p33 hc33))
  have hc34 := Lib.hid (rom_bytes HS34.out #[.int .u8 175, .int .u8 201] 2 rfl (by kernel_rfl) (by omega))
  go_upto_region 36 with (first
    | (go_at_call 11; refine hc34.out.mono ?_; rintro e w35 ⟨rfl, h, hb⟩; have HS35 := Lib.hid h; have HF35 := Lib.hid (HF34.out.trans hb); have GP35 := Lib.hid (GP34.out.frm hb (by decide) (by decide) (by decide)); have p35 : w35.cell? ⟨gp, 0, none⟩ = some (.pointer (some ⟨P, 0, none⟩)) := GP35.out.cell 0; clear h hb p34 hc34))
  have hc35 := Lib.hid (rom_mark HS35.out ⟨#[98, 114, 101, 97, 107]⟩ (by decide) (by have := HL.out; simp [len_count, len_heard, len_called]; omega))
  go_upto_region 37 with (first
    | (go_at_call 14; refine hc35.out.mono ?_; rintro e w36 ⟨rfl, h, hb⟩; have HS36 := Lib.hid h; have HF36 := Lib.hid (HF35.out.trans hb); have GP36 := Lib.hid (GP35.out.frm hb (by decide) (by decide) (by decide)); have p36 : w36.cell? ⟨gp, 0, none⟩ = some (.pointer (some ⟨P, 0, none⟩)) := GP36.out.cell 0; clear h hb p35 hc35))
  have hc36 := Lib.hid (rom_bytes HS36.out #[.int .u8 62, .int .u8 1, .int .u8 183, .int .u8 201] 4 rfl (by kernel_rfl) (by omega))
  go_wp2_with (first
    | (go_at_call 11; refine hc36.out.mono ?_; rintro e w37 ⟨rfl, h, hb⟩; have HS37 := Lib.hid h; have HF37 := Lib.hid (HF36.out.trans hb); have GP37 := Lib.hid (GP36.out.frm hb (by decide) (by decide) (by decide)); have p37 : w37.cell? ⟨gp, 0, none⟩ = some (.pointer (some ⟨P, 0, none⟩)) := GP37.out.cell 0; clear h hb p36 hc36))
  go_end0
  have e : L ++ p_load = L ++ [opMark ⟨#[108, 111, 97, 100]⟩] ++ [opBytes (lz #[.int .u8 8, .int .u8 62, .int .u8 127, .int .u8 219, .int .u8 254])] ++ [opBytes (lz #[.int .u8 31, .int .u8 230, .int .u8 32, .int .u8 79])] ++ [opMark ⟨#[114, 101, 115, 116, 97, 114, 116]⟩] ++ [opBytes (lz #[.int .u8 46, .int .u8 0])] ++ [opMark ⟨#[112, 105, 108, 111, 116]⟩] ++ p_heard (⟨#[108, 111, 110, 103]⟩) ++ [opNear ⟨#[114, 101, 115, 116, 97, 114, 116]⟩ 56] ++ [opBytes (lz #[.int .u8 44])] ++ [opNear ⟨#[112, 105, 108, 111, 116]⟩ 32] ++ [opMark ⟨#[115, 121, 110, 99]⟩] ++ p_heard (⟨#[115, 104, 111, 114, 116]⟩) ++ [opNear ⟨#[115, 121, 110, 99]⟩ 48] ++ [opBytes (lz #[.int .u8 6, .int .u8 0])] ++ p_called (⟨#[101, 100, 103, 101]⟩) ++ [opBytes (lz #[.int .u8 38, .int .u8 0])] ++ p_called (⟨#[98, 121, 116, 101]⟩) ++ [opBytes (lz #[.int .u8 8, .int .u8 189])] ++ [opNear ⟨#[98, 97, 100]⟩ 32] ++ [opBytes (lz #[.int .u8 122, .int .u8 179])] ++ [opNear ⟨#[108, 97, 115, 116]⟩ 40] ++ [opMark ⟨#[100, 97, 116, 97]⟩] ++ p_called (⟨#[98, 121, 116, 101]⟩) ++ [opBytes (lz #[.int .u8 221, .int .u8 117, .int .u8 0, .int .u8 221, .int .u8 35])] ++ [opBytes (lz #[.int .u8 27, .int .u8 122, .int .u8 179])] ++ [opNear ⟨#[100, 97, 116, 97]⟩ 32] ++ [opMark ⟨#[108, 97, 115, 116]⟩] ++ p_called (⟨#[98, 121, 116, 101]⟩) ++ [opBytes (lz #[.int .u8 124, .int .u8 183])] ++ [opNear ⟨#[98, 97, 100]⟩ 32] ++ [opBytes (lz #[.int .u8 55, .int .u8 201])] ++ [opMark ⟨#[102, 97, 105, 108]⟩] ++ [opNear ⟨#[98, 114, 101, 97, 107]⟩ 32] ++ [opMark ⟨#[98, 97, 100]⟩] ++ [opBytes (lz #[.int .u8 175, .int .u8 201])] ++ [opMark ⟨#[98, 114, 101, 97, 107]⟩] ++ [opBytes (lz #[.int .u8 62, .int .u8 1, .int .u8 183, .int .u8 201])] := by unfold p_load; simp only [List.append_assoc]; rfl
  rw [e]
  exact ⟨rfl, HS37.out, HF37.out⟩
theorem len_load : (p_load).length = 53 := by kernel_rfl
end Go.Proofs.Ytnkjmmbhjhmgdaa
