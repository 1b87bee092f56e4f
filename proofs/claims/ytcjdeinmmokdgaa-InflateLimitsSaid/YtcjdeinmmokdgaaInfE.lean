/- inflate's unpacker: a stored block that is none. -/
import Derived.Test.YtcjdeinmmokdgaaInfD
namespace Go.Proofs.Ytcjdeinmmokdgaa
set_option linter.unusedSimpArgs false
set_option linter.unusedVariables false
open Go.RowKit
/-- an error; what lies below is as it was -/
def StoreF (k : Int) (B U r : Nat) (w : World) (e : Ending) (w' : World) : Prop := e = .returned (.int .i64 k) ∧ KeptU B U r w w'
set_option maxRecDepth 100000 in
set_option maxHeartbeats 4000000 in
theorem ustore_end1 (U r : Nat) (A : Option Addr) (c : Nat) (bs : List Int) (pos q : Nat) (v : Value) (out : List Int) (lim : Int) (B : Nat) (w : World) (h : Un w U r A c bs pos v out lim B) (hq : (pos + 7) / 8 = q) (hin : bs.length < q + 2) :
    Calls Try.prog 21 #[.pointer (some ⟨U, 0, none⟩)] w (StoreF 2 B U r w) := by
  have HAL := Lib.hid (align_any r A c bs pos w h.bits)
  rw [hq, Nat.mul_comm q 8] at HAL
  have HT1 : Hid (∀ u, Un u U r A c bs (8 * q) v out lim B → Calls Try.prog 14 #[.pointer (some ⟨U, 0, none⟩), .int .i64 16] u fun e w' => e = .returned (.tuple #[.int .i64 0, .int .i64 2]) ∧ u.grownBy w' (some r)) := fun u hu =>
    (utake_any U r A c bs (8 * q) 16 _ out lim B u hu (by omega)).mono fun e w' ⟨g1, g2⟩ => by
      rw [if_neg (by omega)] at g2
      exact ⟨g2.1, g1⟩
  have HH := Lib.hid h
  have u0 : w.cell? ⟨U, 0, none⟩ = some (.pointer (some ⟨r, 0, none⟩)) := h.blk.cell 0
  clear h hq
  go_enter Try.func21, Try.ntmps21
  go_wp2_with (first
    | (go_at_call 30; refine HAL.out.mono ?_; rintro e w1 ⟨rfl, hb1, hg1⟩; have H1 := Lib.hid (HH.out.step hg1 hb1); have HK1 : Hid (KeptU B U r w w1) := KeptU.of_grown hg1; clear hb1 hg1)
    | (go_at_call 14; refine (HT1.out _ H1.out).mono ?_; rintro e w2 ⟨rfl, hg2⟩; have HK2 : Hid (KeptU B U r w w2) := HK1.out.trans (KeptU.of_grown hg2); clear hg2))
  go_ret
  exact ⟨rfl, HK2.out⟩
set_option maxRecDepth 100000 in
set_option maxHeartbeats 4000000 in
theorem ustore_end2 (U r : Nat) (A : Option Addr) (c : Nat) (bs : List Int) (pos q n : Nat) (v : Value) (out : List Int) (lim : Int) (B : Nat) (w : World) (h : Un w U r A c bs pos v out lim B) (hq : (pos + 7) / 8 = q) (hin0 : q + 2 ≤ bs.length) (hin : bs.length < q + 4) (h1 : Hf.takeVal bs (8 * q) 16 = n) :
    Calls Try.prog 21 #[.pointer (some ⟨U, 0, none⟩)] w (StoreF 2 B U r w) := by
  have HAL := Lib.hid (align_any r A c bs pos w h.bits)
  rw [hq, Nat.mul_comm q 8] at HAL
  have HT1 : Hid (∀ u, Un u U r A c bs (8 * q) v out lim B → Calls Try.prog 14 #[.pointer (some ⟨U, 0, none⟩), .int .i64 16] u fun e w' => e = .returned (.tuple #[.int .i64 n, .int .i64 0]) ∧ Un w' U r A c bs (8 * q + 16) v out lim B ∧ u.grownBy w' (some r)) := fun u hu =>
    (utake_any U r A c bs (8 * q) 16 _ out lim B u hu (by omega)).mono fun e w' ⟨g1, g2⟩ => by
      rw [if_pos (by omega), h1] at g2
      exact ⟨g2.1, g2.2, g1⟩
  have HT2 : Hid (∀ u, Un u U r A c bs (8 * q + 16) v out lim B → Calls Try.prog 14 #[.pointer (some ⟨U, 0, none⟩), .int .i64 16] u fun e w' => e = .returned (.tuple #[.int .i64 0, .int .i64 2]) ∧ u.grownBy w' (some r)) := fun u hu =>
    (utake_any U r A c bs (8 * q + 16) 16 _ out lim B u hu (by omega)).mono fun e w' ⟨g1, g2⟩ => by
      rw [if_neg (by omega)] at g2
      exact ⟨g2.1, g1⟩
  have HH := Lib.hid h
  have u0 : w.cell? ⟨U, 0, none⟩ = some (.pointer (some ⟨r, 0, none⟩)) := h.blk.cell 0
  clear h hq h1
  go_enter Try.func21, Try.ntmps21
  go_wp2_with (first
    | (go_at_call 30; refine HAL.out.mono ?_; rintro e w1 ⟨rfl, hb1, hg1⟩; have H1 := Lib.hid (HH.out.step hg1 hb1); have HK1 : Hid (KeptU B U r w w1) := KeptU.of_grown hg1; clear hb1 hg1)
    | (go_at_call 14; refine (HT2.out _ H2.out).mono ?_; rintro e w3 ⟨rfl, hg3⟩; have HK3 : Hid (KeptU B U r w w3) := HK2.out.trans (KeptU.of_grown hg3); clear hg3)
    | (go_at_call 14; refine (HT1.out _ H1.out).mono ?_; rintro e w2 ⟨rfl, hu2, hg2⟩; have H2 := Lib.hid hu2; have HK2 : Hid (KeptU B U r w w2) := HK1.out.trans (KeptU.of_grown hg2); clear hu2 hg2))
  go_ret
  exact ⟨rfl, HK3.out⟩
set_option maxRecDepth 100000 in
set_option maxHeartbeats 4000000 in
theorem ustore_long (U r : Nat) (A : Option Addr) (c : Nat) (bs : List Int) (pos q n : Nat) (v : Value) (out : List Int) (lim : Int) (B : Nat) (w : World) (h : Un w U r A c bs pos v out lim B) (hq : (pos + 7) / 8 = q) (hin0 : q + 4 ≤ bs.length)
    (h1 : Hf.takeVal bs (8 * q) 16 = n) (h2 : Hf.takeVal bs (8 * q + 16) 16 = 65535 - (n : Int)) (hn : n ≤ 65535) (ho : out.length ≤ 2000000) (hl : lim - out.length < n) (hl2 : lim ≤ 2000000) (hl3 : 0 ≤ lim) :
    Calls Try.prog 21 #[.pointer (some ⟨U, 0, none⟩)] w (StoreF 8 B U r w) := by
  obtain ⟨K, cv, rfl, -, hKn⟩ := own_slice3 h.own
  have HAL := Lib.hid (align_any r A c bs pos w h.bits)
  rw [hq, Nat.mul_comm q 8] at HAL
  have HT1 : Hid (∀ u, Un u U r A c bs (8 * q) (.slice K out.length cv) out lim B → Calls Try.prog 14 #[.pointer (some ⟨U, 0, none⟩), .int .i64 16] u fun e w' => e = .returned (.tuple #[.int .i64 n, .int .i64 0]) ∧ Un w' U r A c bs (8 * q + 16) (.slice K out.length cv) out lim B ∧ u.grownBy w' (some r)) := fun u hu =>
    (utake_any U r A c bs (8 * q) 16 _ out lim B u hu (by omega)).mono fun e w' ⟨g1, g2⟩ => by
      rw [if_pos (by omega), h1] at g2
      exact ⟨g2.1, g2.2, g1⟩
  have HT2 : Hid (∀ u, Un u U r A c bs (8 * q + 16) (.slice K out.length cv) out lim B → Calls Try.prog 14 #[.pointer (some ⟨U, 0, none⟩), .int .i64 16] u fun e w' => e = .returned (.tuple #[.int .i64 (65535 - (n : Int)), .int .i64 0]) ∧ Un w' U r A c bs (8 * q + 32) (.slice K out.length cv) out lim B ∧ u.grownBy w' (some r)) := fun u hu =>
    (utake_any U r A c bs (8 * q + 16) 16 _ out lim B u hu (by omega)).mono fun e w' ⟨g1, g2⟩ => by
      rw [if_pos (by omega), h2] at g2
      exact ⟨g2.1, g2.2, g1⟩
  have hx := xor_turned n hn
  have HH := Lib.hid h
  have u0 : w.cell? ⟨U, 0, none⟩ = some (.pointer (some ⟨r, 0, none⟩)) := h.blk.cell 0
  obtain ⟨m, hm⟩ : ∃ m, m = out.length := ⟨_, rfl⟩
  have HM := Lib.hid hm
  rw [← hm] at hl ho
  have hwl : wrap64 (lim - (m : Int)) = lim - (m : Int) := IntWalk.wrap64_in _ (by omega)
  clear h h1 h2 hq hm
  go_enter Try.func21, Try.ntmps21
  go_wp2_with (first
    | (go_at_call 30; refine HAL.out.mono ?_; rintro e w1 ⟨rfl, hb1, hg1⟩; have H1 := Lib.hid (HH.out.step hg1 hb1); have HK1 : Hid (KeptU B U r w w1) := KeptU.of_grown hg1; clear hb1 hg1)
    | (go_at_call 14; refine (HT2.out _ H2.out).mono ?_; rintro e w3 ⟨rfl, hu3, hg3⟩; have H3 := Lib.hid hu3; have HK3 : Hid (KeptU B U r w w3) := HK2.out.trans (KeptU.of_grown hg3); clear hu3 hg3)
    | (go_at_call 14; refine (HT1.out _ H1.out).mono ?_; rintro e w2 ⟨rfl, hu2, hg2⟩; have H2 := Lib.hid hu2; have HK2 : Hid (KeptU B U r w w2) := HK1.out.trans (KeptU.of_grown hg2); clear hu2 hg2))
  have u31 : w3.cell? ⟨U, 1, none⟩ = some (.slice K m cv) := by have := H3.out.blk.cell 1; rw [HM.out]; exact this
  have u32 : w3.cell? ⟨U, 2, none⟩ = some (.int .i64 lim) := H3.out.blk.cell 2
  go_quiet (fail)
  go_wp2
  go_ret
  exact ⟨rfl, ⟨HK3.out.os, HK3.out.tape, HK3.out.output, HK3.out.size, HK3.out.block⟩⟩
set_option maxRecDepth 100000 in
set_option maxHeartbeats 4000000 in
theorem ustore_end3 (U r : Nat) (A : Option Addr) (c : Nat) (bs : List Int) (pos q n : Nat) (v : Value) (out : List Int) (lim : Int) (B : Nat) (w : World) (h : Un w U r A c bs pos v out lim B) (hq : (pos + 7) / 8 = q) (hin0 : q + 4 ≤ bs.length)
    (h1 : Hf.takeVal bs (8 * q) 16 = n) (h2 : Hf.takeVal bs (8 * q + 16) 16 = 65535 - (n : Int)) (hn : n ≤ 65535) (ho : out.length ≤ 2000000) (hl : (n : Int) ≤ lim - out.length) (hl2 : lim ≤ 2000000) (hin : bs.length < q + 4 + n) :
    Calls Try.prog 21 #[.pointer (some ⟨U, 0, none⟩)] w (StoreF 2 B U r w) := by
  obtain ⟨K, cv, rfl, -, hKn⟩ := own_slice3 h.own
  have HAL := Lib.hid (align_any r A c bs pos w h.bits)
  rw [hq, Nat.mul_comm q 8] at HAL
  have HT1 : Hid (∀ u, Un u U r A c bs (8 * q) (.slice K out.length cv) out lim B → Calls Try.prog 14 #[.pointer (some ⟨U, 0, none⟩), .int .i64 16] u fun e w' => e = .returned (.tuple #[.int .i64 n, .int .i64 0]) ∧ Un w' U r A c bs (8 * q + 16) (.slice K out.length cv) out lim B ∧ u.grownBy w' (some r)) := fun u hu =>
    (utake_any U r A c bs (8 * q) 16 _ out lim B u hu (by omega)).mono fun e w' ⟨g1, g2⟩ => by
      rw [if_pos (by omega), h1] at g2
      exact ⟨g2.1, g2.2, g1⟩
  have HT2 : Hid (∀ u, Un u U r A c bs (8 * q + 16) (.slice K out.length cv) out lim B → Calls Try.prog 14 #[.pointer (some ⟨U, 0, none⟩), .int .i64 16] u fun e w' => e = .returned (.tuple #[.int .i64 (65535 - (n : Int)), .int .i64 0]) ∧ Un w' U r A c bs (8 * (q + 4)) (.slice K out.length cv) out lim B ∧ u.grownBy w' (some r)) := fun u hu =>
    (utake_any U r A c bs (8 * q + 16) 16 _ out lim B u hu (by omega)).mono fun e w' ⟨g1, g2⟩ => by
      rw [if_pos (by omega), h2, show 8 * q + 16 + 16 = 8 * (q + 4) by omega] at g2
      exact ⟨g2.1, g2.2, g1⟩
  have HBY := Lib.hid (fun u (hu : BitsAt u r A c bs (8 * (q + 4))) => bytes_fail r A c bs (q + 4) n u hu (by omega) hin)
  have hx := xor_turned n hn
  have HH := Lib.hid h
  have u0 : w.cell? ⟨U, 0, none⟩ = some (.pointer (some ⟨r, 0, none⟩)) := h.blk.cell 0
  obtain ⟨m, hm⟩ : ∃ m, m = out.length := ⟨_, rfl⟩
  have HM := Lib.hid hm
  rw [← hm] at hl ho
  have hnl : ¬ (lim - (m : Int) < (n : Int)) := by omega
  have hwl : wrap64 (lim - (m : Int)) = lim - (m : Int) := IntWalk.wrap64_in _ (by omega)
  clear h h1 h2 hq hm
  go_enter Try.func21, Try.ntmps21
  go_wp2_with (first
    | (go_at_call 30; refine HAL.out.mono ?_; rintro e w1 ⟨rfl, hb1, hg1⟩; have H1 := Lib.hid (HH.out.step hg1 hb1); have HK1 : Hid (KeptU B U r w w1) := KeptU.of_grown hg1; clear hb1 hg1)
    | (go_at_call 14; refine (HT2.out _ H2.out).mono ?_; rintro e w3 ⟨rfl, hu3, hg3⟩; have H3 := Lib.hid hu3; have HK3 : Hid (KeptU B U r w w3) := HK2.out.trans (KeptU.of_grown hg3); clear hu3 hg3)
    | (go_at_call 14; refine (HT1.out _ H1.out).mono ?_; rintro e w2 ⟨rfl, hu2, hg2⟩; have H2 := Lib.hid hu2; have HK2 : Hid (KeptU B U r w w2) := HK1.out.trans (KeptU.of_grown hg2); clear hu2 hg2))
  have u31 : w3.cell? ⟨U, 1, none⟩ = some (.slice K m cv) := by have := H3.out.blk.cell 1; rw [HM.out]; exact this
  have u32 : w3.cell? ⟨U, 2, none⟩ = some (.int .i64 lim) := H3.out.blk.cell 2
  have u30 : w3.cell? ⟨U, 0, none⟩ = some (.pointer (some ⟨r, 0, none⟩)) := H3.out.blk.cell 0
  go_quiet (fail)
  go_wp2_with (first
    | (go_at_call 31
       refine (HBY.out _ (H3.out.bits.drewN _)).mono ?_
       rintro e w4 ⟨rfl, hg4⟩
       have HK4 : Hid (KeptU B U r w w4) := HK3.out.trans (KeptU.of_grown (grownBy_trans (grownBy_drewN (grownBy_refl w3 _) _) hg4))
       clear hg4))
  go_ret
  exact ⟨rfl, HK4.out⟩
end Go.Proofs.Ytcjdeinmmokdgaa
