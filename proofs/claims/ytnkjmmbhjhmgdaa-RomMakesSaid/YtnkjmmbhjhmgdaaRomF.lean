/- A ROM that is put together: its parts. -/
import Derived.Test.YtnkjmmbhjhmgdaaRomD
namespace Go.Proofs.Ytnkjmmbhjhmgdaa
set_option linter.unusedSimpArgs false
set_option linter.unusedVariables false
open Go.RowKit Go.Maps Go.Sort
def p_listen : List OpL := [opMark ⟨#[101, 100, 103, 101]⟩] ++ [opBytes [4, 200]] ++ [opBytes [62, 127, 219, 254]] ++ [opBytes [31, 208]] ++ [opBytes [169, 230, 32]] ++ [opNear ⟨#[101, 100, 103, 101]⟩ 40] ++ [opBytes [121, 47, 79]] ++ [opBytes [55, 201]] ++ [opMark ⟨#[98, 121, 116, 101]⟩] ++ [opBytes [46, 1]] ++ [opMark ⟨#[104, 97, 108, 102]⟩] ++ [opBytes [6, 0]] ++ [opTo ⟨#[101, 100, 103, 101]⟩ [205]] ++ [opBytes [208]] ++ [opTo ⟨#[101, 100, 103, 101]⟩ [205]] ++ [opBytes [208]] ++ [opBytes [120, 253, 188, 63]] ++ [opBytes [203, 21]] ++ [opNear ⟨#[104, 97, 108, 102]⟩ 48] ++ [opBytes [124, 173, 103]] ++ [opBytes [55, 201]]
set_option maxRecDepth 100000 in
set_option maxHeartbeats 8000000 in
theorem rp_listen {B P M : Nat} {L : List OpL} {w : World} (h : RomS B P M L w) (hL : L.length ≤ 750) :
    Calls Try.prog 18 #[progV P] w (RomR B P M (L ++ p_listen) w) := by
  have HL := Lib.hid hL
  have hb := below_alloc1 w (.cells #[.pointer (some ⟨P, 0, none⟩)] 39)
  have g0 := Blk.new w 39 [.pointer (some ⟨P, 0, none⟩)]
  obtain ⟨w0, hw0⟩ : ∃ u, u = w.alloc (.cells #[.pointer (some ⟨P, 0, none⟩)] 39) := ⟨_, rfl⟩
  obtain ⟨gp, hgp⟩ : ∃ g, g = w.heap.size := ⟨_, rfl⟩
  have GP0 : Hid (Blk w0 gp 39 [.pointer (some ⟨P, 0, none⟩)]) := Lib.hid (by rw [hw0, hgp]; exact g0)
  have HS0 : Hid (RomS B P M L w0) := Lib.hid (by rw [hw0]; exact h.below_ hb)
  have HF0 : Hid (Frm B w w0) := Lib.hid (by rw [hw0]; exact h.s.toB hb)
  have p0 : w0.cell? ⟨gp, 0, none⟩ = some (.pointer (some ⟨P, 0, none⟩)) := GP0.out.cell 0
  have HW := Lib.hid hw0
  have HGP := Lib.hid hgp
  clear h hb hw0 hgp g0 hL
  unfold progV
  go_enter Try.func18, Try.ntmps18
  go_upto_region 1 with fail
  rw [← HW.out, ← HGP.out]
  clear HW HGP
  have hc0 := Lib.hid (rom_mark HS0.out ⟨#[101, 100, 103, 101]⟩ (by decide) (by have := HL.out; simp [len_count, len_heard, len_called]; omega))
  go_upto_region 2 with (first
    | (go_at_call 14; refine hc0.out.mono ?_; rintro e w1 ⟨rfl, h, hb⟩; have HS1 := Lib.hid h; have HF1 := Lib.hid (HF0.out.trans hb); have GP1 := Lib.hid (GP0.out.frm hb (by decide) (by decide) (by decide)); have p1 : w1.cell? ⟨gp, 0, none⟩ = some (.pointer (some ⟨P, 0, none⟩)) := GP1.out.cell 0; clear h hb p0 hc0))
  have hc1 := Lib.hid (rom_bytes HS1.out #[.int .u8 4, .int .u8 200] 2 rfl (by kernel_rfl) (by omega))
  go_upto_region 3 with (first
    | (go_at_call 11; refine hc1.out.mono ?_; rintro e w2 ⟨rfl, h, hb⟩; have HS2 := Lib.hid h; have HF2 := Lib.hid (HF1.out.trans hb); have GP2 := Lib.hid (GP1.out.frm hb (by decide) (by decide) (by decide)); have p2 : w2.cell? ⟨gp, 0, none⟩ = some (.pointer (some ⟨P, 0, none⟩)) := GP2.out.cell 0; clear h hb p1 hc1))
  have hc2 := Lib.hid (rom_bytes HS2.out #[.int .u8 62, .int .u8 127, .int .u8 219, .int .u8 254] 4 rfl (by kernel_rfl) (by omega))
  go_upto_region 4 with (first
    | (go_at_call 11; refine hc2.out.mono ?_; rintro e w3 ⟨rfl, h, hb⟩; have HS3 := Lib.hid h; have HF3 := Lib.hid (HF2.out.trans hb); have GP3 := Lib.hid (GP2.out.frm hb (by decide) (by decide) (by decide)); have p3 : w3.cell? ⟨gp, 0, none⟩ = some (.pointer (some ⟨P, 0, none⟩)) := GP3.out.cell 0; clear h hb p2 hc2))
  have hc3 := Lib.hid (rom_bytes HS3.out #[.int .u8 31, .int .u8 208] 2 rfl (by kernel_rfl) (by omega))
  go_upto_region 5 with (first
    | (go_at_call 11; refine hc3.out.mono ?_; rintro e w4 ⟨rfl, h, hb⟩; have HS4 := Lib.hid h; have HF4 := Lib.hid (HF3.out.trans hb); have GP4 := Lib.hid (GP3.out.frm hb (by decide) (by decide) (by decide)); have p4 : w4.cell? ⟨gp, 0, none⟩ = some (.pointer (some ⟨P, 0, none⟩)) := GP4.out.cell 0; clear h hb p3 hc3))
  have hc4 := Lib.hid (rom_bytes HS4.out #[.int .u8 169, .int .u8 230, .int .u8 32] 3 rfl (by kernel_rfl) (by omega))
  go_upto_region 6 with (first
    | (go_at_call 11; refine hc4.out.mono ?_; rintro e w5 ⟨rfl, h, hb⟩; have HS5 := Lib.hid h; have HF5 := Lib.hid (HF4.out.trans hb); have GP5 := Lib.hid (GP4.out.frm hb (by decide) (by decide) (by decide)); have p5 : w5.cell? ⟨gp, 0, none⟩ = some (.pointer (some ⟨P, 0, none⟩)) := GP5.out.cell 0; clear h hb p4 hc4))
  have hc5 := Lib.hid (rom_near HS5.out ⟨#[101, 100, 103, 101]⟩ (by decide) (by have := HL.out; simp [len_count, len_heard, len_called]; omega) 40 (by omega) (by omega))
  go_upto_region 7 with (first
    | (go_at_call 15; refine hc5.out.mono ?_; rintro e w6 ⟨rfl, h, hb⟩; have HS6 := Lib.hid h; have HF6 := Lib.hid (HF5.out.trans hb); have GP6 := Lib.hid (GP5.out.frm hb (by decide) (by decide) (by decide)); have p6 : w6.cell? ⟨gp, 0, none⟩ = some (.pointer (some ⟨P, 0, none⟩)) := GP6.out.cell 0; clear h hb p5 hc5))
  have hc6 := Lib.hid (rom_bytes HS6.out #[.int .u8 121, .int .u8 47, .int .u8 79] 3 rfl (by kernel_rfl) (by omega))
  go_upto_region 8 with (first
    | (go_at_call 11; refine hc6.out.mono ?_; rintro e w7 ⟨rfl, h, hb⟩; have HS7 := Lib.hid h; have HF7 := Lib.hid (HF6.out.trans hb); have GP7 := Lib.hid (GP6.out.frm hb (by decide) (by decide) (by decide)); have p7 : w7.cell? ⟨gp, 0, none⟩ = some (.pointer (some ⟨P, 0, none⟩)) := GP7.out.cell 0; clear h hb p6 hc6))
  have hc7 := Lib.hid (rom_bytes HS7.out #[.int .u8 55, .int .u8 201] 2 rfl (by kernel_rfl) (by omega))
  go_upto_region 9 with (first
    | (go_at_call 11; refine hc7.out.mono ?_; rintro e w8 ⟨rfl, h, hb⟩; have HS8 := Lib.hid h; have HF8 := Lib.hid (HF7.out.trans hb); have GP8 := Lib.hid (GP7.out.frm hb (by decide) (by decide) (by decide)); have p8 : w8.cell? ⟨gp, 0, none⟩ = some (.pointer (some ⟨P, 0, none⟩)) := GP8.out.cell 0; clear h hb p7 hc7))
  have hc8 := Lib.hid (rom_mark HS8.out ⟨#[98, 121, 116, 101]⟩ (by decide) (by have := HL.out; simp [len_count, len_heard, len_called]; omega))
  go_upto_region 10 with (first
    | (go_at_call 14; refine hc8.out.mono ?_; rintro e w9 ⟨rfl, h, hb⟩; have HS9 := Lib.hid h; have HF9 := Lib.hid (HF8.out.trans hb); have GP9 := Lib.hid (GP8.out.frm hb (by decide) (by decide) (by decide)); have p9 : w9.cell? ⟨gp, 0, none⟩ = some (.pointer (some ⟨P, 0, none⟩)) := GP9.out.cell 0; clear h hb p8 hc8))
  have hc9 := Lib.hid (rom_bytes HS9.out #[.int .u8 46, .int .u8 1] 2 rfl (by kernel_rfl) (by omega))
  go_upto_region 11 with (first
    | (go_at_call 11; refine hc9.out.mono ?_; rintro e w10 ⟨rfl, h, hb⟩; have HS10 := Lib.hid h; have HF10 := Lib.hid (HF9.out.trans hb); have GP10 := Lib.hid (GP9.out.frm hb (by decide) (by decide) (by decide)); have p10 : w10.cell? ⟨gp, 0, none⟩ = some (.pointer (some ⟨P, 0, none⟩)) := GP10.out.cell 0; clear h hb p9 hc9))
  have hc10 := Lib.hid (rom_mark HS10.out ⟨#[104, 97, 108, 102]⟩ (by decide) (by have := HL.out; simp [len_count, len_heard, len_called]; omega))
  go_upto_region 12 with (first
    | (go_at_call 14; refine hc10.out.mono ?_; rintro e w11 ⟨rfl, h, hb⟩; have HS11 := Lib.hid h; have HF11 := Lib.hid (HF10.out.trans hb); have GP11 := Lib.hid (GP10.out.frm hb (by decide) (by decide) (by decide)); have p11 : w11.cell? ⟨gp, 0, none⟩ = some (.pointer (some ⟨P, 0, none⟩)) := GP11.out.cell 0; clear h hb p10 hc10))
  have hc11 := Lib.hid (rom_bytes HS11.out #[.int .u8 6, .int .u8 0] 2 rfl (by kernel_rfl) (by omega))
  go_upto_region 13 with (first
    | (go_at_call 11; refine hc11.out.mono ?_; rintro e w12 ⟨rfl, h, hb⟩; have HS12 := Lib.hid h; have HF12 := Lib.hid (HF11.out.trans hb); have GP12 := Lib.hid (GP11.out.frm hb (by decide) (by decide) (by decide)); have p12 : w12.cell? ⟨gp, 0, none⟩ = some (.pointer (some ⟨P, 0, none⟩)) := GP12.out.cell 0; clear h hb p11 hc11))
  have hc12 := Lib.hid (rom_to HS12.out ⟨#[101, 100, 103, 101]⟩ (by decide) (by have := HL.out; simp [len_count, len_heard, len_called]; omega) #[.int .u8 205] 1 rfl (by kernel_rfl) (by omega))
  go_upto_region 14 with (first
    | (go_at_call 12; refine hc12.out.mono ?_; rintro e w13 ⟨rfl, h, hb⟩; have HS13 := Lib.hid h; have HF13 := Lib.hid (HF12.out.trans hb); have GP13 := Lib.hid (GP12.out.frm hb (by decide) (by decide) (by decide)); have p13 : w13.cell? ⟨gp, 0, none⟩ = some (.pointer (some ⟨P, 0, none⟩)) := GP13.out.cell 0; clear h hb p12 hc12))
  have hc13 := Lib.hid (rom_bytes HS13.out #[.int .u8 208] 1 rfl (by kernel_rfl) (by omega))
  go_upto_region 15 with (first
    | (go_at_call 11; refine hc13.out.mono ?_; rintro e w14 ⟨rfl, h, hb⟩; have HS14 := Lib.hid h; have HF14 := Lib.hid (HF13.out.trans hb); have GP14 := Lib.hid (GP13.out.frm hb (by decide) (by decide) (by decide)); have p14 : w14.cell? ⟨gp, 0, none⟩ = some (.pointer (some ⟨P, 0, none⟩)) := GP14.out.cell 0; clear h hb p13 hc13))
  have hc14 := Lib.hid (rom_to HS14.out ⟨#[101, 100, 103, 101]⟩ (by decide) (by have := HL.out; simp [len_count, len_heard, len_called]; omega) #[.int .u8 205] 1 rfl (by kernel_rfl) (by omega))
  go_upto_region 16 with (first
    | (go_at_call 12; refine hc14.out.mono ?_; rintro e w15 ⟨rfl, h, hb⟩; have HS15 := Lib.hid h; have HF15 := Lib.hid (HF14.out.trans hb); have GP15 := Lib.hid (GP14.out.frm hb (by decide) (by decide) (by decide)); have p15 : w15.cell? ⟨gp, 0, none⟩ = some (.pointer (some ⟨P, 0, none⟩)) := GP15.out.cell 0; clear h hb p14 hc14))
  have hc15 := Lib.hid (rom_bytes HS15.out #[.int .u8 208] 1 rfl (by kernel_rfl) (by omega))
  go_upto_region 17 with (first
    | (go_at_call 11; refine hc15.out.mono ?_; rintro e w16 ⟨rfl, h, hb⟩; have HS16 := Lib.hid h; have HF16 := Lib.hid (HF15.out.trans hb); have GP16 := Lib.hid (GP15.out.frm hb (by decide) (by decide) (by decide)); have p16 : w16.cell? ⟨gp, 0, none⟩ = some (.pointer (some ⟨P, 0, none⟩)) := GP16.out.cell 0; clear h hb p15 hc15))
  have hc16 := Lib.hid (rom_bytes HS16.out #[.int .u8 120, .int .u8 253, .int .u8 188, .int .u8 63] 4 rfl (by kernel_rfl) (by omega))
  go_upto_region 18 with (first
    | (go_at_call 11; refine hc16.out.mono ?_; rintro e w17 ⟨rfl, h, hb⟩; have HS17 := Lib.hid h; have HF17 := Lib.hid (HF16.out.trans hb); have GP17 := Lib.hid (GP16.out.frm hb (by decide) (by decide) (by decide)); have p17 : w17.cell? ⟨gp, 0, none⟩ = some (.pointer (some ⟨P, 0, none⟩)) := GP17.out.cell 0; clear h hb p16 hc16))
  have hc17 := Lib.hid (rom_bytes HS17.out #[.int .u8 203, .int .u8 21] 2 rfl (by kernel_rfl) (by omega))
  go_upto_region 19 with (first
    | (go_at_call 11; refine hc17.out.mono ?_; rintro e w18 ⟨rfl, h, hb⟩; have HS18 := Lib.hid h; have HF18 := Lib.hid (HF17.out.trans hb); have GP18 := Lib.hid (GP17.out.frm hb (by decide) (by decide) (by decide)); have p18 : w18.cell? ⟨gp, 0, none⟩ = some (.pointer (some ⟨P, 0, none⟩)) := GP18.out.cell 0; clear h hb p17 hc17))
  have hc18 := Lib.hid (rom_near HS18.out ⟨#[104, 97, 108, 102]⟩ (by decide) (by have := HL.out; simp [len_count, len_heard, len_called]; omega) 48 (by omega) (by omega))
  go_upto_region 20 with (first
    | (go_at_call 15; refine hc18.out.mono ?_; rintro e w19 ⟨rfl, h, hb⟩; have HS19 := Lib.hid h; have HF19 := Lib.hid (HF18.out.trans hb); have GP19 := Lib.hid (GP18.out.frm hb (by decide) (by decide) (by decide)); have p19 : w19.cell? ⟨gp, 0, none⟩ = some (.pointer (some ⟨P, 0, none⟩)) := GP19.out.cell 0; clear h hb p18 hc18))
  have hc19 := Lib.hid (rom_bytes HS19.out #[.int .u8 124, .int .u8 173, .int .u8 103] 3 rfl (by kernel_rfl) (by omega))
  go_upto_region 21 with (first
    | (go_at_call 11; refine hc19.out.mono ?_; rintro e w20 ⟨rfl, h, hb⟩; have HS20 := Lib.hid h; have HF20 := Lib.hid (HF19.out.trans hb); have GP20 := Lib.hid (GP19.out.frm hb (by decide) (by decide) (by decide)); have p20 : w20.cell? ⟨gp, 0, none⟩ = some (.pointer (some ⟨P, 0, none⟩)) := GP20.out.cell 0; clear h hb p19 hc19))
  have hc20 := Lib.hid (rom_bytes HS20.out #[.int .u8 55, .int .u8 201] 2 rfl (by kernel_rfl) (by omega))
  go_wp2_with (first
    | (go_at_call 11; refine hc20.out.mono ?_; rintro e w21 ⟨rfl, h, hb⟩; have HS21 := Lib.hid h; have HF21 := Lib.hid (HF20.out.trans hb); have GP21 := Lib.hid (GP20.out.frm hb (by decide) (by decide) (by decide)); have p21 : w21.cell? ⟨gp, 0, none⟩ = some (.pointer (some ⟨P, 0, none⟩)) := GP21.out.cell 0; clear h hb p20 hc20))
  go_end0
  have e : L ++ p_listen = L ++ [opMark ⟨#[101, 100, 103, 101]⟩] ++ [opBytes (lz #[.int .u8 4, .int .u8 200])] ++ [opBytes (lz #[.int .u8 62, .int .u8 127, .int .u8 219, .int .u8 254])] ++ [opBytes (lz #[.int .u8 31, .int .u8 208])] ++ [opBytes (lz #[.int .u8 169, .int .u8 230, .int .u8 32])] ++ [opNear ⟨#[101, 100, 103, 101]⟩ 40] ++ [opBytes (lz #[.int .u8 121, .int .u8 47, .int .u8 79])] ++ [opBytes (lz #[.int .u8 55, .int .u8 201])] ++ [opMark ⟨#[98, 121, 116, 101]⟩] ++ [opBytes (lz #[.int .u8 46, .int .u8 1])] ++ [opMark ⟨#[104, 97, 108, 102]⟩] ++ [opBytes (lz #[.int .u8 6, .int .u8 0])] ++ [opTo ⟨#[101, 100, 103, 101]⟩ (lz #[.int .u8 205])] ++ [opBytes (lz #[.int .u8 208])] ++ [opTo ⟨#[101, 100, 103, 101]⟩ (lz #[.int .u8 205])] ++ [opBytes (lz #[.int .u8 208])] ++ [opBytes (lz #[.int .u8 120, .int .u8 253, .int .u8 188, .int .u8 63])] ++ [opBytes (lz #[.int .u8 203, .int .u8 21])] ++ [opNear ⟨#[104, 97, 108, 102]⟩ 48] ++ [opBytes (lz #[.int .u8 124, .int .u8 173, .int .u8 103])] ++ [opBytes (lz #[.int .u8 55, .int .u8 201])] := by unfold p_listen; simp only [List.append_assoc]; rfl
  rw [e]
  exact ⟨rfl, HS21.out, HF21.out⟩
theorem len_listen : (p_listen).length = 21 := by kernel_rfl
end Go.Proofs.Ytnkjmmbhjhmgdaa
