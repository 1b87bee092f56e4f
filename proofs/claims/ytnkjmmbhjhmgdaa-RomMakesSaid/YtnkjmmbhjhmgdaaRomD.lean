/- A ROM that is put together: its parts. -/
import Derived.Test.YtnkjmmbhjhmgdaaRomC
namespace Go.Proofs.Ytnkjmmbhjhmgdaa
set_option linter.unusedSimpArgs false
set_option linter.unusedVariables false
open Go.RowKit Go.Maps Go.Sort
def p_count (n : Int) : List OpL := [opBytes [253, 33, ((n + 1) % 256), ((n + 1) / 256 % 256)]]
set_option maxRecDepth 100000 in
set_option maxHeartbeats 8000000 in
theorem rp_count {B P M : Nat} {L : List OpL} {w : World} (h : RomS B P M L w) (hL : L.length ≤ 850) (n : Int) (h0 : 0 ≤ n) (h1 : n ≤ 65534) :
    Calls Try.prog 25 #[progV P, .int .i64 n] w (RomR B P M (L ++ p_count n) w) := by
  have HL := Lib.hid hL
  have hb := below_alloc1 w (.cells #[.pointer (some ⟨P, 0, none⟩)] 39)
  have g0 := Blk.new w 39 [.pointer (some ⟨P, 0, none⟩)]
  obtain ⟨w0, hw0⟩ : ∃ u, u = w.alloc (.cells #[.pointer (some ⟨P, 0, none⟩)] 39) := ⟨_, rfl⟩
  obtain ⟨gp, hgp⟩ : ∃ g, g = w.heap.size := ⟨_, rfl⟩
  have GP0 : Hid (Blk w0 gp 39 [.pointer (some ⟨P, 0, none⟩)]) := Lib.hid (by rw [hw0, hgp]; exact g0)
  have HS0 : Hid (RomS B P M L w0) := Lib.hid (by rw [hw0]; exact h.below_ hb)
  have HF0 : Hid (Frm B w w0) := Lib.hid (by rw [hw0]; exact h.s.toB hb)
  have p0 : w0.cell? ⟨gp, 0, none⟩ = some (.pointer (some ⟨P, 0, none⟩)) := GP0.out.cell 0
  have HW := Lib.hid hw0
  have HGP := Lib.hid hgp
  clear h hb hw0 hgp g0 hL
  have e1 : IntKind.u8.wrap (n + 1) = (n + 1) % 256 := by rw [IntKind.wrap_u8]
  have e2 : IntKind.u8.wrap ((n + 1) / 256) = (n + 1) / 256 % 256 := by rw [IntKind.wrap_u8]
  unfold progV
  go_enter Try.func25, Try.ntmps25
  go_upto_region 1 with fail
  rw [← HW.out, ← HGP.out]
  clear HW HGP
  have hc0 := Lib.hid (rom_bytes HS0.out #[.int .u8 253, .int .u8 33, .int .u8 ((n + 1) % 256), .int .u8 ((n + 1) / 256 % 256)] 4 rfl (by simp [byteV]; omega) (by omega))
  go_wp2_with (first
    | (go_at_call 11; refine hc0.out.mono ?_; rintro e w1 ⟨rfl, h, hb⟩; have HS1 := Lib.hid h; have HF1 := Lib.hid (HF0.out.trans hb); have GP1 := Lib.hid (GP0.out.frm hb (by decide) (by decide) (by decide)); have p1 : w1.cell? ⟨gp, 0, none⟩ = some (.pointer (some ⟨P, 0, none⟩)) := GP1.out.cell 0; clear h hb p0 hc0))
  go_end0
  have e : L ++ p_count n = L ++ [opBytes (lz #[.int .u8 253, .int .u8 33, .int .u8 ((n + 1) % 256), .int .u8 ((n + 1) / 256 % 256)])] := by simp [p_count, lz, numV]
  rw [e]
  exact ⟨rfl, HS1.out, HF1.out⟩
theorem len_count (n : Int) : (p_count n).length = 1 := by simp [p_count]
def p_heard (s : ByteArray) : List OpL := [opBytes [6, 0]] ++ [opTo ⟨#[101, 100, 103, 101]⟩ [205]] ++ [opNear s 56] ++ [opNear ⟨#[114, 101, 115, 116, 97, 114, 116]⟩ 40] ++ [opTo ⟨#[98, 114, 101, 97, 107]⟩ [195]] ++ [opMark s] ++ [opBytes [120, 253, 189]]
set_option maxRecDepth 100000 in
set_option maxHeartbeats 8000000 in
theorem rp_heard {B P M : Nat} {L : List OpL} {w : World} (h : RomS B P M L w) (hL : L.length ≤ 850) (s : ByteArray) (hs : s.size ≤ 10) :
    Calls Try.prog 28 #[progV P, .string s] w (RomR B P M (L ++ p_heard s) w) := by
  have HL := Lib.hid hL
  have hb := below_alloc1 w (.cells #[.pointer (some ⟨P, 0, none⟩)] 39)
  have g0 := Blk.new w 39 [.pointer (some ⟨P, 0, none⟩)]
  obtain ⟨w0, hw0⟩ : ∃ u, u = w.alloc (.cells #[.pointer (some ⟨P, 0, none⟩)] 39) := ⟨_, rfl⟩
  obtain ⟨gp, hgp⟩ : ∃ g, g = w.heap.size := ⟨_, rfl⟩
  have GP0 : Hid (Blk w0 gp 39 [.pointer (some ⟨P, 0, none⟩)]) := Lib.hid (by rw [hw0, hgp]; exact g0)
  have HS0 : Hid (RomS B P M L w0) := Lib.hid (by rw [hw0]; exact h.below_ hb)
  have HF0 : Hid (Frm B w w0) := Lib.hid (by rw [hw0]; exact h.s.toB hb)
  have p0 : w0.cell? ⟨gp, 0, none⟩ = some (.pointer (some ⟨P, 0, none⟩)) := GP0.out.cell 0
  have HW := Lib.hid hw0
  have HGP := Lib.hid hgp
  clear h hb hw0 hgp g0 hL
  have HSZ := Lib.hid hs
  unfold progV
  go_enter Try.func28, Try.ntmps28
  go_upto_region 1 with fail
  rw [← HW.out, ← HGP.out]
  clear HW HGP
  have hc0 := Lib.hid (rom_bytes HS0.out #[.int .u8 6, .int .u8 0] 2 rfl (by kernel_rfl) (by omega))
  go_upto_region 2 with (first
    | (go_at_call 11; refine hc0.out.mono ?_; rintro e w1 ⟨rfl, h, hb⟩; have HS1 := Lib.hid h; have HF1 := Lib.hid (HF0.out.trans hb); have GP1 := Lib.hid (GP0.out.frm hb (by decide) (by decide) (by decide)); have p1 : w1.cell? ⟨gp, 0, none⟩ = some (.pointer (some ⟨P, 0, none⟩)) := GP1.out.cell 0; clear h hb p0 hc0))
  have hc1 := Lib.hid (rom_to HS1.out ⟨#[101, 100, 103, 101]⟩ (by decide) (by have := HL.out; simp [len_turn, len_pulse, len_pilot, len_bits, len_bytes]; omega) #[.int .u8 205] 1 rfl (by kernel_rfl) (by omega))
  go_upto_region 3 with (first
    | (go_at_call 12; refine hc1.out.mono ?_; rintro e w2 ⟨rfl, h, hb⟩; have HS2 := Lib.hid h; have HF2 := Lib.hid (HF1.out.trans hb); have GP2 := Lib.hid (GP1.out.frm hb (by decide) (by decide) (by decide)); have p2 : w2.cell? ⟨gp, 0, none⟩ = some (.pointer (some ⟨P, 0, none⟩)) := GP2.out.cell 0; clear h hb p1 hc1))
  have hc2 := Lib.hid (rom_near HS2.out s (by have := HSZ.out; unfold maxLen; omega) (by have := HL.out; simp [len_turn, len_pulse, len_pilot, len_bits, len_bytes]; omega) 56 (by omega) (by omega))
  go_upto_region 4 with (first
    | (go_at_call 15; refine hc2.out.mono ?_; rintro e w3 ⟨rfl, h, hb⟩; have HS3 := Lib.hid h; have HF3 := Lib.hid (HF2.out.trans hb); have GP3 := Lib.hid (GP2.out.frm hb (by decide) (by decide) (by decide)); have p3 : w3.cell? ⟨gp, 0, none⟩ = some (.pointer (some ⟨P, 0, none⟩)) := GP3.out.cell 0; clear h hb p2 hc2))
  have hc3 := Lib.hid (rom_near HS3.out ⟨#[114, 101, 115, 116, 97, 114, 116]⟩ (by decide) (by have := HL.out; simp [len_turn, len_pulse, len_pilot, len_bits, len_bytes]; omega) 40 (by omega) (by omega))
  go_upto_region 5 with (first
    | (go_at_call 15; refine hc3.out.mono ?_; rintro e w4 ⟨rfl, h, hb⟩; have HS4 := Lib.hid h; have HF4 := Lib.hid (HF3.out.trans hb); have GP4 := Lib.hid (GP3.out.frm hb (by decide) (by decide) (by decide)); have p4 : w4.cell? ⟨gp, 0, none⟩ = some (.pointer (some ⟨P, 0, none⟩)) := GP4.out.cell 0; clear h hb p3 hc3))
  have hc4 := Lib.hid (rom_to HS4.out ⟨#[98, 114, 101, 97, 107]⟩ (by decide) (by have := HL.out; simp [len_turn, len_pulse, len_pilot, len_bits, len_bytes]; omega) #[.int .u8 195] 1 rfl (by kernel_rfl) (by omega))
  go_upto_region 6 with (first
    | (go_at_call 12; refine hc4.out.mono ?_; rintro e w5 ⟨rfl, h, hb⟩; have HS5 := Lib.hid h; have HF5 := Lib.hid (HF4.out.trans hb); have GP5 := Lib.hid (GP4.out.frm hb (by decide) (by decide) (by decide)); have p5 : w5.cell? ⟨gp, 0, none⟩ = some (.pointer (some ⟨P, 0, none⟩)) := GP5.out.cell 0; clear h hb p4 hc4))
  have hc5 := Lib.hid (rom_mark HS5.out s (by have := HSZ.out; unfold maxLen; omega) (by have := HL.out; simp [len_turn, len_pulse, len_pilot, len_bits, len_bytes]; omega))
  go_upto_region 7 with (first
    | (go_at_call 14; refine hc5.out.mono ?_; rintro e w6 ⟨rfl, h, hb⟩; have HS6 := Lib.hid h; have HF6 := Lib.hid (HF5.out.trans hb); have GP6 := Lib.hid (GP5.out.frm hb (by decide) (by decide) (by decide)); have p6 : w6.cell? ⟨gp, 0, none⟩ = some (.pointer (some ⟨P, 0, none⟩)) := GP6.out.cell 0; clear h hb p5 hc5))
  have hc6 := Lib.hid (rom_bytes HS6.out #[.int .u8 120, .int .u8 253, .int .u8 189] 3 rfl (by kernel_rfl) (by omega))
  go_wp2_with (first
    | (go_at_call 11; refine hc6.out.mono ?_; rintro e w7 ⟨rfl, h, hb⟩; have HS7 := Lib.hid h; have HF7 := Lib.hid (HF6.out.trans hb); have GP7 := Lib.hid (GP6.out.frm hb (by decide) (by decide) (by decide)); have p7 : w7.cell? ⟨gp, 0, none⟩ = some (.pointer (some ⟨P, 0, none⟩)) := GP7.out.cell 0; clear h hb p6 hc6))
  go_end0
  have e : L ++ p_heard s = L ++ [opBytes (lz #[.int .u8 6, .int .u8 0])] ++ [opTo ⟨#[101, 100, 103, 101]⟩ (lz #[.int .u8 205])] ++ [opNear s 56] ++ [opNear ⟨#[114, 101, 115, 116, 97, 114, 116]⟩ 40] ++ [opTo ⟨#[98, 114, 101, 97, 107]⟩ (lz #[.int .u8 195])] ++ [opMark s] ++ [opBytes (lz #[.int .u8 120, .int .u8 253, .int .u8 189])] := by simp [p_heard, lz, numV]
  rw [e]
  exact ⟨rfl, HS7.out, HF7.out⟩
theorem len_heard (s : ByteArray) : (p_heard s).length = 7 := by simp [p_heard]
def p_called (s : ByteArray) : List OpL := [opTo s [205]] ++ [opNear ⟨#[102, 97, 105, 108]⟩ 48]
set_option maxRecDepth 100000 in
set_option maxHeartbeats 8000000 in
theorem rp_called {B P M : Nat} {L : List OpL} {w : World} (h : RomS B P M L w) (hL : L.length ≤ 850) (s : ByteArray) (hs : s.size ≤ 10) :
    Calls Try.prog 29 #[progV P, .string s] w (RomR B P M (L ++ p_called s) w) := by
  have HL := Lib.hid hL
  have hb := below_alloc1 w (.cells #[.pointer (some ⟨P, 0, none⟩)] 39)
  have g0 := Blk.new w 39 [.pointer (some ⟨P, 0, none⟩)]
  obtain ⟨w0, hw0⟩ : ∃ u, u = w.alloc (.cells #[.pointer (some ⟨P, 0, none⟩)] 39) := ⟨_, rfl⟩
  obtain ⟨gp, hgp⟩ : ∃ g, g = w.heap.size := ⟨_, rfl⟩
  have GP0 : Hid (Blk w0 gp 39 [.pointer (some ⟨P, 0, none⟩)]) := Lib.hid (by rw [hw0, hgp]; exact g0)
  have HS0 : Hid (RomS B P M L w0) := Lib.hid (by rw [hw0]; exact h.below_ hb)
  have HF0 : Hid (Frm B w w0) := Lib.hid (by rw [hw0]; exact h.s.toB hb)
  have p0 : w0.cell? ⟨gp, 0, none⟩ = some (.pointer (some ⟨P, 0, none⟩)) := GP0.out.cell 0
  have HW := Lib.hid hw0
  have HGP := Lib.hid hgp
  clear h hb hw0 hgp g0 hL
  have HSZ := Lib.hid hs
  unfold progV
  go_enter Try.func29, Try.ntmps29
  go_upto_region 1 with fail
  rw [← HW.out, ← HGP.out]
  clear HW HGP
  have hc0 := Lib.hid (rom_to HS0.out s (by have := HSZ.out; unfold maxLen; omega) (by have := HL.out; simp [len_turn, len_pulse, len_pilot, len_bits, len_bytes]; omega) #[.int .u8 205] 1 rfl (by kernel_rfl) (by omega))
  go_upto_region 2 with (first
    | (go_at_call 12; refine hc0.out.mono ?_; rintro e w1 ⟨rfl, h, hb⟩; have HS1 := Lib.hid h; have HF1 := Lib.hid (HF0.out.trans hb); have GP1 := Lib.hid (GP0.out.frm hb (by decide) (by decide) (by decide)); have p1 : w1.cell? ⟨gp, 0, none⟩ = some (.pointer (some ⟨P, 0, none⟩)) := GP1.out.cell 0; clear h hb p0 hc0))
  have hc1 := Lib.hid (rom_near HS1.out ⟨#[102, 97, 105, 108]⟩ (by decide) (by have := HL.out; simp [len_turn, len_pulse, len_pilot, len_bits, len_bytes]; omega) 48 (by omega) (by omega))
  go_wp2_with (first
    | (go_at_call 15; refine hc1.out.mono ?_; rintro e w2 ⟨rfl, h, hb⟩; have HS2 := Lib.hid h; have HF2 := Lib.hid (HF1.out.trans hb); have GP2 := Lib.hid (GP1.out.frm hb (by decide) (by decide) (by decide)); have p2 : w2.cell? ⟨gp, 0, none⟩ = some (.pointer (some ⟨P, 0, none⟩)) := GP2.out.cell 0; clear h hb p1 hc1))
  go_end0
  have e : L ++ p_called s = L ++ [opTo s (lz #[.int .u8 205])] ++ [opNear ⟨#[102, 97, 105, 108]⟩ 48] := by simp [p_called, lz, numV]
  rw [e]
  exact ⟨rfl, HS2.out, HF2.out⟩
theorem len_called (s : ByteArray) : (p_called s).length = 2 := by simp [p_called]
def p_save (s : ByteArray) (t : TimL) : List OpL := [opBytes [103, 111]] ++ p_pilot s t ++ p_bits s t ++ p_bytes s
set_option maxRecDepth 100000 in
set_option maxHeartbeats 8000000 in
theorem rp_save {B P M : Nat} {L : List OpL} {w : World} (h : RomS B P M L w) (hL : L.length ≤ 700) (s : ByteArray) (t : TimL) (hs : s.size ≤ 10) (ht : TimOk t) :
    Calls Try.prog 26 #[progV P, .string s, timV t] w (RomR B P M (L ++ p_save s t) w) := by
  have HL := Lib.hid hL
  have hb : Below w.heap.size w ((w.alloc (.cells #[.pointer (some ⟨P, 0, none⟩)] 39)).alloc (.cells #[.int .i64 t.pilot, .int .i64 t.sync1, .int .i64 t.sync2, .int .i64 t.zero, .int .i64 t.one] 29)) := ((Below.refl _ w).alloc (Nat.le_refl _) _).alloc (by simp) _
  have g0 := (Blk.new w 39 [.pointer (some ⟨P, 0, none⟩)]).alloc (.cells #[.int .i64 t.pilot, .int .i64 t.sync1, .int .i64 t.sync2, .int .i64 t.zero, .int .i64 t.one] 29)
  have g1 := Blk.new (w.alloc (.cells #[.pointer (some ⟨P, 0, none⟩)] 39)) 29 [.int .i64 t.pilot, .int .i64 t.sync1, .int .i64 t.sync2, .int .i64 t.zero, .int .i64 t.one]
  rw [World.size_alloc] at g1
  obtain ⟨w0, hw0⟩ : ∃ u, u = (w.alloc (.cells #[.pointer (some ⟨P, 0, none⟩)] 39)).alloc (.cells #[.int .i64 t.pilot, .int .i64 t.sync1, .int .i64 t.sync2, .int .i64 t.zero, .int .i64 t.one] 29) := ⟨_, rfl⟩
  obtain ⟨gp, hgp⟩ : ∃ g, g = w.heap.size := ⟨_, rfl⟩
  obtain ⟨gt, hgt⟩ : ∃ g, g = w.heap.size + 1 := ⟨_, rfl⟩
  have GT0 : Hid (Blk w0 gt 29 [.int .i64 t.pilot, .int .i64 t.sync1, .int .i64 t.sync2, .int .i64 t.zero, .int .i64 t.one]) := Lib.hid (by rw [hw0, hgt]; exact g1)
  have t0_0 : w0.cell? ⟨gt, 0, none⟩ = some (.int .i64 t.pilot) := GT0.out.cell 0
  have t0_1 : w0.cell? ⟨gt, 1, none⟩ = some (.int .i64 t.sync1) := GT0.out.cell 1
  have t0_2 : w0.cell? ⟨gt, 2, none⟩ = some (.int .i64 t.sync2) := GT0.out.cell 2
  have t0_3 : w0.cell? ⟨gt, 3, none⟩ = some (.int .i64 t.zero) := GT0.out.cell 3
  have t0_4 : w0.cell? ⟨gt, 4, none⟩ = some (.int .i64 t.one) := GT0.out.cell 4
  have GP0 : Hid (Blk w0 gp 39 [.pointer (some ⟨P, 0, none⟩)]) := Lib.hid (by rw [hw0, hgp]; exact g0)
  have HS0 : Hid (RomS B P M L w0) := Lib.hid (by rw [hw0]; exact h.below_ hb)
  have HF0 : Hid (Frm B w w0) := Lib.hid (by rw [hw0]; exact h.s.toB hb)
  have p0 : w0.cell? ⟨gp, 0, none⟩ = some (.pointer (some ⟨P, 0, none⟩)) := GP0.out.cell 0
  have HW := Lib.hid hw0
  have HGP := Lib.hid hgp
  have HGT := Lib.hid hgt
  clear h hb hw0 hgp g0 hL g1 hgt
  have HSZ := Lib.hid hs
  have HT := Lib.hid ht
  have bp0 := ht.p0
  have bp1 := ht.p1
  have ba0 := ht.a0
  have ba1 := ht.a1
  have bb0 := ht.b0
  have bb1 := ht.b1
  have bz0 := ht.z0
  have bz1 := ht.z1
  have bo0 := ht.o0
  have bo1 := ht.o1
  clear ht
  unfold progV timV
  go_enter Try.func26, Try.ntmps26
  go_upto_region 1 with fail
  rw [← HW.out, ← HGT.out, ← HGP.out]
  clear HW HGP HGT
  have hc0 := Lib.hid (rom_bytes HS0.out #[.int .u8 103, .int .u8 111] 2 rfl (by kernel_rfl) (by omega))
  go_upto_region 2 with (first
    | (go_at_call 11; refine hc0.out.mono ?_; rintro e w1 ⟨rfl, h, hb⟩; have HS1 := Lib.hid h; have HF1 := Lib.hid (HF0.out.trans hb); have GP1 := Lib.hid (GP0.out.frm hb (by decide) (by decide) (by decide)); have p1 : w1.cell? ⟨gp, 0, none⟩ = some (.pointer (some ⟨P, 0, none⟩)) := GP1.out.cell 0; have GT1 := Lib.hid (GT0.out.frm hb (by decide) (by decide) (by decide)); have t1_0 : w1.cell? ⟨gt, 0, none⟩ = some (.int .i64 t.pilot) := GT1.out.cell 0; have t1_1 : w1.cell? ⟨gt, 1, none⟩ = some (.int .i64 t.sync1) := GT1.out.cell 1; have t1_2 : w1.cell? ⟨gt, 2, none⟩ = some (.int .i64 t.sync2) := GT1.out.cell 2; have t1_3 : w1.cell? ⟨gt, 3, none⟩ = some (.int .i64 t.zero) := GT1.out.cell 3; have t1_4 : w1.cell? ⟨gt, 4, none⟩ = some (.int .i64 t.one) := GT1.out.cell 4; clear h hb p0 t0_0 t0_1 t0_2 t0_3 t0_4 hc0))
  have hc1 := Lib.hid (rp_pilot HS1.out (by have := HL.out; simp [len_turn, len_pulse, len_pilot, len_bits, len_bytes]; omega) s t HSZ.out HT.out)
  go_upto_region 3 with (first
    | (go_at_call 31; refine hc1.out.mono ?_; rintro e w2 ⟨rfl, h, hb⟩; have HS2 := Lib.hid h; have HF2 := Lib.hid (HF1.out.trans hb); have GP2 := Lib.hid (GP1.out.frm hb (by decide) (by decide) (by decide)); have p2 : w2.cell? ⟨gp, 0, none⟩ = some (.pointer (some ⟨P, 0, none⟩)) := GP2.out.cell 0; have GT2 := Lib.hid (GT1.out.frm hb (by decide) (by decide) (by decide)); have t2_0 : w2.cell? ⟨gt, 0, none⟩ = some (.int .i64 t.pilot) := GT2.out.cell 0; have t2_1 : w2.cell? ⟨gt, 1, none⟩ = some (.int .i64 t.sync1) := GT2.out.cell 1; have t2_2 : w2.cell? ⟨gt, 2, none⟩ = some (.int .i64 t.sync2) := GT2.out.cell 2; have t2_3 : w2.cell? ⟨gt, 3, none⟩ = some (.int .i64 t.zero) := GT2.out.cell 3; have t2_4 : w2.cell? ⟨gt, 4, none⟩ = some (.int .i64 t.one) := GT2.out.cell 4; clear h hb p1 t1_0 t1_1 t1_2 t1_3 t1_4 hc1))
  have hc2 := Lib.hid (rp_bits HS2.out (by have := HL.out; simp [len_turn, len_pulse, len_pilot, len_bits, len_bytes]; omega) s t HSZ.out HT.out)
  go_upto_region 4 with (first
    | (go_at_call 32; refine hc2.out.mono ?_; rintro e w3 ⟨rfl, h, hb⟩; have HS3 := Lib.hid h; have HF3 := Lib.hid (HF2.out.trans hb); have GP3 := Lib.hid (GP2.out.frm hb (by decide) (by decide) (by decide)); have p3 : w3.cell? ⟨gp, 0, none⟩ = some (.pointer (some ⟨P, 0, none⟩)) := GP3.out.cell 0; have GT3 := Lib.hid (GT2.out.frm hb (by decide) (by decide) (by decide)); have t3_0 : w3.cell? ⟨gt, 0, none⟩ = some (.int .i64 t.pilot) := GT3.out.cell 0; have t3_1 : w3.cell? ⟨gt, 1, none⟩ = some (.int .i64 t.sync1) := GT3.out.cell 1; have t3_2 : w3.cell? ⟨gt, 2, none⟩ = some (.int .i64 t.sync2) := GT3.out.cell 2; have t3_3 : w3.cell? ⟨gt, 3, none⟩ = some (.int .i64 t.zero) := GT3.out.cell 3; have t3_4 : w3.cell? ⟨gt, 4, none⟩ = some (.int .i64 t.one) := GT3.out.cell 4; clear h hb p2 t2_0 t2_1 t2_2 t2_3 t2_4 hc2))
  have hc3 := Lib.hid (rp_bytes HS3.out (by have := HL.out; simp [len_turn, len_pulse, len_pilot, len_bits, len_bytes]; omega) s HSZ.out)
  go_wp2_with (first
    | (go_at_call 33; refine hc3.out.mono ?_; rintro e w4 ⟨rfl, h, hb⟩; have HS4 := Lib.hid h; have HF4 := Lib.hid (HF3.out.trans hb); have GP4 := Lib.hid (GP3.out.frm hb (by decide) (by decide) (by decide)); have p4 : w4.cell? ⟨gp, 0, none⟩ = some (.pointer (some ⟨P, 0, none⟩)) := GP4.out.cell 0; have GT4 := Lib.hid (GT3.out.frm hb (by decide) (by decide) (by decide)); have t4_0 : w4.cell? ⟨gt, 0, none⟩ = some (.int .i64 t.pilot) := GT4.out.cell 0; have t4_1 : w4.cell? ⟨gt, 1, none⟩ = some (.int .i64 t.sync1) := GT4.out.cell 1; have t4_2 : w4.cell? ⟨gt, 2, none⟩ = some (.int .i64 t.sync2) := GT4.out.cell 2; have t4_3 : w4.cell? ⟨gt, 3, none⟩ = some (.int .i64 t.zero) := GT4.out.cell 3; have t4_4 : w4.cell? ⟨gt, 4, none⟩ = some (.int .i64 t.one) := GT4.out.cell 4; clear h hb p3 t3_0 t3_1 t3_2 t3_3 t3_4 hc3))
  go_end0
  have e : L ++ p_save s t = L ++ [opBytes (lz #[.int .u8 103, .int .u8 111])] ++ p_pilot s t ++ p_bits s t ++ p_bytes s := by simp [p_save, lz, numV]
  rw [e]
  exact ⟨rfl, HS4.out, HF4.out⟩
theorem len_save (s : ByteArray) (t : TimL) : (p_save s t).length = 62 := by simp [p_save, len_pilot, len_bits, len_bytes]
end Go.Proofs.Ytnkjmmbhjhmgdaa
