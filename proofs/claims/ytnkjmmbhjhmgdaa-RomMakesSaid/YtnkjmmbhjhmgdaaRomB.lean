/- A ROM that is put together: its parts. -/
import Derived.Test.YtnkjmmbhjhmgdaaRomA
namespace Go.Proofs.Ytnkjmmbhjhmgdaa
set_option linter.unusedSimpArgs false
set_option linter.unusedVariables false
open Go.RowKit Go.Maps Go.Sort
def progV (P : Nat) : Value := .agg #[.pointer (some ⟨P, 0, none⟩)]
/-- a string put together -/
def cat (s t : ByteArray) : ByteArray := s ++ t
structure TimL where
  pilot : Int
  sync1 : Int
  sync2 : Int
  zero : Int
  one : Int
def timV (t : TimL) : Value := .agg #[.int .i64 t.pilot, .int .i64 t.sync1, .int .i64 t.sync2, .int .i64 t.zero, .int .i64 t.one]
structure TimOk (t : TimL) : Prop where
  p0 : 86 ≤ t.pilot
  p1 : t.pilot ≤ 65535
  a0 : 86 ≤ t.sync1
  a1 : t.sync1 ≤ 65535
  b0 : 32 ≤ t.sync2
  b1 : t.sync2 ≤ 65535
  z0 : 192 ≤ t.zero
  z1 : t.zero ≤ 65535
  o0 : 192 ≤ t.one
  o1 : t.one ≤ 65535
def p_turn : List OpL := [opBytes [238, 8, 211, 254]]
set_option maxRecDepth 100000 in
set_option maxHeartbeats 8000000 in
theorem rp_turn {B P M : Nat} {L : List OpL} {w : World} (h : RomS B P M L w) (hL : L.length ≤ 890) :
    Calls Try.prog 36 #[progV P] w (RomR B P M (L ++ p_turn) w) := by
  have HL := Lib.hid hL
  have hb := below_alloc1 w (.cells #[.pointer (some ⟨P, 0, none⟩)] 39)
  have g0 := Blk.new w 39 [.pointer (some ⟨P, 0, none⟩)]
  obtain ⟨w0, hw0⟩ : ∃ u, u = w.alloc (.cells #[.pointer (some ⟨P, 0, none⟩)] 39) := ⟨_, rfl⟩
  obtain ⟨gp, hgp⟩ : ∃ g, g = w.heap.size := ⟨_, rfl⟩
  have GP0 : Hid (Blk w0 gp 39 [.pointer (some ⟨P, 0, none⟩)]) := Lib.hid (by rw [hw0, hgp]; exact g0)
  have HS0 : Hid (RomS B P M L w0) := Lib.hid (by rw [hw0]; exact h.below_ hb)
  have HF0 : Hid (Frm B w w0) := Lib.hid (by rw [hw0]; exact h.s.toB hb)
  have p0 : w0.cell? ⟨gp, 0, none⟩ = some (.pointer (some ⟨P, 0, none⟩)) := GP0.out.cell 0
  have HW := Lib.hid hw0
  have HGP := Lib.hid hgp
  clear h hb hw0 hgp g0 hL
  unfold progV
  go_enter Try.func36, Try.ntmps36
  go_upto_region 1 with fail
  rw [← HW.out, ← HGP.out]
  clear HW HGP
  have hc0 := Lib.hid (rom_bytes HS0.out #[.int .u8 238, .int .u8 8, .int .u8 211, .int .u8 254] 4 rfl (by kernel_rfl) (by omega))
  go_wp2_with (first
    | (go_at_call 11; refine hc0.out.mono ?_; rintro e w1 ⟨rfl, h, hb⟩; have HS1 := Lib.hid h; have HF1 := Lib.hid (HF0.out.trans hb); have GP1 := Lib.hid (GP0.out.frm hb (by decide) (by decide) (by decide)); have p1 : w1.cell? ⟨gp, 0, none⟩ = some (.pointer (some ⟨P, 0, none⟩)) := GP1.out.cell 0; clear h hb p0 hc0))
  go_end0
  have e : L ++ p_turn = L ++ [opBytes (lz #[.int .u8 238, .int .u8 8, .int .u8 211, .int .u8 254])] := by simp [p_turn, lz, numV]
  rw [e]
  exact ⟨rfl, HS1.out, HF1.out⟩
theorem len_turn : (p_turn).length = 1 := by simp [p_turn]
def p_pulse (n : Int) : List OpL := [opDelay (n)] ++ p_turn
set_option maxRecDepth 100000 in
set_option maxHeartbeats 8000000 in
theorem rp_pulse {B P M : Nat} {L : List OpL} {w : World} (h : RomS B P M L w) (hL : L.length ≤ 880) (n : Int) (h0 : -9223372036854775808 ≤ n) (h1 : n ≤ 9223372036854775807) :
    Calls Try.prog 34 #[progV P, .int .i64 n] w (RomR B P M (L ++ p_pulse n) w) := by
  have HL := Lib.hid hL
  have hb := below_alloc1 w (.cells #[.pointer (some ⟨P, 0, none⟩)] 39)
  have g0 := Blk.new w 39 [.pointer (some ⟨P, 0, none⟩)]
  obtain ⟨w0, hw0⟩ : ∃ u, u = w.alloc (.cells #[.pointer (some ⟨P, 0, none⟩)] 39) := ⟨_, rfl⟩
  obtain ⟨gp, hgp⟩ : ∃ g, g = w.heap.size := ⟨_, rfl⟩
  have GP0 : Hid (Blk w0 gp 39 [.pointer (some ⟨P, 0, none⟩)]) := Lib.hid (by rw [hw0, hgp]; exact g0)
  have HS0 : Hid (RomS B P M L w0) := Lib.hid (by rw [hw0]; exact h.below_ hb)
  have HF0 : Hid (Frm B w w0) := Lib.hid (by rw [hw0]; exact h.s.toB hb)
  have p0 : w0.cell? ⟨gp, 0, none⟩ = some (.pointer (some ⟨P, 0, none⟩)) := GP0.out.cell 0
  have HW := Lib.hid hw0
  have HGP := Lib.hid hgp
  clear h hb hw0 hgp g0 hL
  unfold progV
  go_enter Try.func34, Try.ntmps34
  go_upto_region 1 with fail
  rw [← HW.out, ← HGP.out]
  clear HW HGP
  have hc0 := Lib.hid (rom_delay HS0.out (n) (by omega) (by omega))
  go_upto_region 2 with (first
    | (go_at_call 35; refine hc0.out.mono ?_; rintro e w1 ⟨rfl, h, hb⟩; have HS1 := Lib.hid h; have HF1 := Lib.hid (HF0.out.trans hb); have GP1 := Lib.hid (GP0.out.frm hb (by decide) (by decide) (by decide)); have p1 : w1.cell? ⟨gp, 0, none⟩ = some (.pointer (some ⟨P, 0, none⟩)) := GP1.out.cell 0; clear h hb p0 hc0))
  have hc1 := Lib.hid (rp_turn HS1.out (by have := HL.out; simp []; omega))
  go_wp2_with (first
    | (go_at_call 36; refine hc1.out.mono ?_; rintro e w2 ⟨rfl, h, hb⟩; have HS2 := Lib.hid h; have HF2 := Lib.hid (HF1.out.trans hb); have GP2 := Lib.hid (GP1.out.frm hb (by decide) (by decide) (by decide)); have p2 : w2.cell? ⟨gp, 0, none⟩ = some (.pointer (some ⟨P, 0, none⟩)) := GP2.out.cell 0; clear h hb p1 hc1))
  go_end0
  have e : L ++ p_pulse n = L ++ [opDelay (n)] ++ p_turn := by simp [p_pulse, lz, numV]
  rw [e]
  exact ⟨rfl, HS2.out, HF2.out⟩
theorem len_pulse (n : Int) : (p_pulse n).length = 2 := by simp [p_pulse, len_turn]
end Go.Proofs.Ytnkjmmbhjhmgdaa
