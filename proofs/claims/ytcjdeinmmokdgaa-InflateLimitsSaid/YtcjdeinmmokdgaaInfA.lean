/- Contracts of huff.Bits: left, one, At, Align, Read, Take. -/
import Derived.Test.YtcjdeinmmokdgaaRows
import Derived.Test.YtcjdeinmmokdgaaBits
import Derived.Test.YtcjdeinmmokdgaaFrm
namespace Go.Proofs.Ytcjdeinmmokdgaa
set_option linter.unusedSimpArgs false
set_option linter.unusedVariables false
open Go.RowKit
namespace Hf
/-- bit i of bytes -/
def bitAt (bs : List Int) (i : Nat) : Int := (bs.getD (i / 8) 0 / 2 ^ (i % 8)) % 2
theorem bitAt_range (bs : List Int) (i : Nat) : 0 ≤ bitAt bs i ∧ bitAt bs i ≤ 1 := by unfold bitAt; omega
end Hf
theorem and_one_u8 (x : Int) (h0 : 0 ≤ x) (h1 : x ≤ 255) : bits .and .u8 x 1 = x % 2 := by
  rw [u8_and x 1 h0 (by omega) (by omega) (by omega)]
  have : x.toNat &&& (1 : Int).toNat = x.toNat % 2 := Nat.and_two_pow_sub_one_eq_mod x.toNat 1
  rw [this]; omega
/-- block r is a reader of the bits of bs, of which so many were taken -/
def BitsAt (w : World) (r : Nat) (A : Option Addr) (c : Nat) (bs : List Int) (pos : Nat) : Prop :=
  Blk w r 47 [.slice A bs.length c, .int .i64 pos] ∧ Ints w A .u8 bs ∧ (∀ x ∈ bs, 0 ≤ x ∧ x ≤ 255) ∧ pos ≤ 8 * bs.length ∧ bs.length ≤ 140737488355328 ∧ bs.length ≤ c
theorem BitsAt.drewN {w : World} {r : Nat} {A : Option Addr} {c : Nat} {bs : List Int} {pos : Nat} (h : BitsAt w r A c bs pos) (n : Nat) : BitsAt (w.drewN n) r A c bs pos := h
theorem BitsAt.below {w w' : World} {r : Nat} {A : Option Addr} {c : Nat} {bs : List Int} {pos : Nat} (h : BitsAt w r A c bs pos) (hb : Below w.heap.size w w') : BitsAt w' r A c bs pos := by
  obtain ⟨h1, h2, h3⟩ := h
  exact ⟨h1.below_ hb, h2.below hb, h3⟩
theorem BitsAt.set {w : World} {r : Nat} {A : Option Addr} {c : Nat} {bs : List Int} {pos : Nat} (h : BitsAt w r A c bs pos) (q : Nat) (hq : q ≤ 8 * bs.length) : BitsAt (w.setCell ⟨r, 1, none⟩ (.int .i64 q)) r A c bs q := by
  obtain ⟨h1, h2, h3, h4, h5⟩ := h
  refine ⟨h1.set_ 1 _, ?_, h3, hq, h5⟩
  refine Cells.grown h2 (grownBy_setCell (grownBy_refl w _) 1 _) (Cells.apart h2 h1 ?_)
  intro v hv hc
  obtain ⟨x, _, rfl⟩ := List.mem_map.1 hv
  simp at hc

set_option maxHeartbeats 400000 in
theorem left_any (r : Nat) (A : Option Addr) (c : Nat) (bs : List Int) (pos : Nat) (w : World) (h : BitsAt w r A c bs pos) :
    Calls Try.prog 28 #[.pointer (some ⟨r, 0, none⟩)] w fun e w' => e = .returned (.int .i64 ((8 * bs.length - pos : Nat) : Int)) ∧ Drew w w' := by
  obtain ⟨hb, _, _, hp, hn, _⟩ := h
  obtain ⟨n, hn2⟩ : ∃ n, n = bs.length := ⟨_, rfl⟩
  rw [← hn2] at hb hp hn ⊢
  clear hn2
  have hc0 : w.cell? ⟨r, 0, none⟩ = some (.slice A n c) := hb.cell 0
  have hc1 : w.cell? ⟨r, 1, none⟩ = some (.int .i64 pos) := hb.cell 1
  have HB := Lib.hid hb; clear hb
  go_enter Try.func28, Try.ntmps28
  go_wp2
  go_quiet (fail)
  go_wp2
  go_ret
  have e : ((8 * n - pos : Nat) : Int) = 8 * n - pos := by omega
  rw [e]
  exact ⟨rfl, _, rfl⟩

set_option maxHeartbeats 400000 in
theorem one_any (r : Nat) (A : Option Addr) (c : Nat) (bs : List Int) (pos : Nat) (w : World) (h : BitsAt w r A c bs pos) (hlt : pos < 8 * bs.length) :
    Calls Try.prog 29 #[.pointer (some ⟨r, 0, none⟩)] w fun e w' => e = .returned (.int .i64 (Hf.bitAt bs pos)) ∧ BitsAt w' r A c bs (pos + 1) ∧ w.grownBy w' (some r) := by
  have HH := Lib.hid h
  obtain ⟨hb, hi, hr, _, hn, _⟩ := h
  obtain ⟨x, hx⟩ : ∃ x, bs[pos / 8]? = some x := ⟨_, List.getElem?_eq_getElem (by omega)⟩
  obtain ⟨ad, rfl, hc2⟩ := hi (pos / 8) (.int .u8 x) (by simp [hx])
  obtain ⟨hx0, hx1⟩ := hr x (List.mem_of_getElem? hx)
  have hbit : Hf.bitAt bs pos = x / 2 ^ (pos % 8) % 2 := by unfold Hf.bitAt; simp [List.getD, hx]
  have hpw : (1 : Int) ≤ 2 ^ (pos % 8) := by have : (1 : Nat) ≤ 2 ^ (pos % 8) := Nat.one_le_two_pow
                                             exact_mod_cast this
  have hd0 : 0 ≤ x / 2 ^ (pos % 8) := Int.ediv_nonneg hx0 (by omega)
  have hd1 : x / 2 ^ (pos % 8) ≤ 255 := by
    have := Int.ediv_le_self (2 ^ (pos % 8)) hx0
    omega
  have HBIT := Lib.hid hbit
  obtain ⟨n, hn2⟩ : ∃ n, Hid (n = bs.length) := ⟨_, Lib.hid rfl⟩
  rw [← hn2.out] at hb hn hlt
  have hc0 : w.cell? ⟨r, 0, none⟩ = some (.slice (some ad) n c) := hb.cell 0
  have hc1 : w.cell? ⟨r, 1, none⟩ = some (.int .i64 pos) := hb.cell 1
  have hf1 := hb.frozen 1
  have HB := Lib.hid hb; clear hb hi hr hx hbit
  have h2 : (pos : Int) / 8 < n := by omega
  have h3 : 0 ≤ (pos : Int) / 8 := by omega
  have h4 : 0 ≤ (pos : Int) % 8 := by omega
  go_enter Try.func29, Try.ntmps29
  go_wp2
  go_quiet (fail)
  go_wp2
  go_ret
  refine ⟨?_, ?_, ?_⟩
  · rw [HBIT.out]
    have e := and_one_u8 _ hd0 hd1
    show Ending.returned (Value.int IntKind.i64 (wrap64 (bits BinOp.and IntKind.u8 (x / 2 ^ (pos % 8)) 1))) = _
    rw [e, IntWalk.wrap64_in _ (by omega)]
  · exact (HH.out.set (pos + 1) (by rw [← hn2.out]; omega)).drewN _
  · exact grownBy_drewN (grownBy_setCell (grownBy_refl w _) 1 _) _

set_option maxHeartbeats 400000 in
theorem at_any (r : Nat) (A : Option Addr) (c : Nat) (bs : List Int) (pos : Nat) (w : World) (h : BitsAt w r A c bs pos) :
    Calls Try.prog 16 #[.pointer (some ⟨r, 0, none⟩)] w fun e w' => e = .returned (.int .i64 (((pos + 7) / 8 : Nat) : Int)) ∧ w = w' := by
  obtain ⟨hb, _, _, hp, hn, _⟩ := h
  have hc1 : w.cell? ⟨r, 1, none⟩ = some (.int .i64 pos) := hb.cell 1
  have hp2 : pos ≤ 1125899906842624 := by omega
  clear hb hp hn
  go_enter Try.func16, Try.ntmps16
  go_wp2
  go_ret
  have e : (((pos + 7) / 8 : Nat) : Int) = (pos + 7) / 8 := by omega
  rw [e]
  refine ⟨?_, rfl⟩
  show Ending.returned (Value.int IntKind.i64 (((pos : Int) + 8 - 1) / 8)) = _
  congr 3
  omega
set_option maxHeartbeats 400000 in
theorem align_any (r : Nat) (A : Option Addr) (c : Nat) (bs : List Int) (pos : Nat) (w : World) (h : BitsAt w r A c bs pos) :
    Calls Try.prog 30 #[.pointer (some ⟨r, 0, none⟩)] w fun e w' => e = .returned (.tuple #[]) ∧ BitsAt w' r A c bs ((pos + 7) / 8 * 8) ∧ w.grownBy w' (some r) := by
  have HH := Lib.hid h
  obtain ⟨hb, _, _, hp, hn, _⟩ := h
  have hc1 : w.cell? ⟨r, 1, none⟩ = some (.int .i64 pos) := hb.cell 1
  have hf1 := hb.frozen 1
  have hp2 : pos ≤ 1125899906842624 := by omega
  have HP := Lib.hid hp
  clear hb hp hn
  go_enter Try.func30, Try.ntmps30
  go_wp2
  go_end0
  have e : ((pos : Int) + 8 - 1) / 8 * 8 = (((pos + 7) / 8 * 8 : Nat) : Int) := by omega
  rw [e]
  refine ⟨rfl, HH.out.set _ (by have := HP.out; omega), grownBy_setCell (grownBy_refl w _) 1 _⟩
set_option maxHeartbeats 400000 in
theorem read_any (A : Option Addr) (n c : Nat) (bs : List Int) (w : World) (h : Ints w A .u8 bs) (hr : ∀ x ∈ bs, 0 ≤ x ∧ x ≤ 255) (hn : bs.length = n) (hm : n ≤ 140737488355328) (hc : n ≤ c) :
    Calls Try.prog 13 #[.slice A n c] w fun e w' => e = .returned (.pointer (some ⟨w.heap.size, 0, none⟩)) ∧ BitsAt w' w.heap.size A c bs 0 ∧ Below w.heap.size w w' := by
  have HN := Lib.hid hn; clear hn
  go_enter Try.func13, Try.ntmps13
  go_wp2
  go_ret
  refine ⟨rfl, ⟨?_, ?_, hr, by omega, by rw [HN.out]; exact hm, by rw [HN.out]; exact hc⟩, (Below.refl _ _).alloc (Nat.le_refl _) _⟩
  · rw [HN.out]; exact Blk.new w _ [_, _]
  · exact Cells.below h ((Below.refl _ _).alloc (Nat.le_refl _) _)
namespace Hf
/-- so many bits as a number -/
def takeVal (bs : List Int) (pos : Nat) : Nat → Int
  | 0 => 0
  | n + 1 => takeVal bs pos n + bitAt bs (pos + n) * 2 ^ n
theorem takeVal_range (bs : List Int) (pos n : Nat) : 0 ≤ takeVal bs pos n ∧ takeVal bs pos n < 2 ^ n := by
  induction n with
  | zero => simp [takeVal]
  | succ n ih =>
    have hb := bitAt_range bs (pos + n)
    have hp : (0 : Int) < 2 ^ n := Int.pow_pos (by omega)
    have h2 : (2 : Int) ^ (n + 1) = 2 ^ n * 2 := Int.pow_succ 2 n
    have h3 : bitAt bs (pos + n) = 0 ∨ bitAt bs (pos + n) = 1 := by omega
    simp only [takeVal]
    rw [h2]
    rcases h3 with h3 | h3 <;> rw [h3] <;> omega
theorem or_up (V b : Int) (n : Nat) (v0 : 0 ≤ V) (v1 : V < 2 ^ n) (hn : n ≤ 24) (b0 : 0 ≤ b) (b1 : b ≤ 1) : bits BinOp.or IntKind.i64 V (b * 2 ^ n) = V + b * 2 ^ n := by
  obtain ⟨a, rfl⟩ := Int.eq_ofNat_of_zero_le v0
  obtain ⟨c, rfl⟩ := Int.eq_ofNat_of_zero_le b0
  have ha : a < 2 ^ n := by exact_mod_cast v1
  have hp : (2 : Nat) ^ n ≤ 2 ^ 24 := Nat.pow_le_pow_right (by omega) hn
  have hc : c * 2 ^ n ≤ 1 * 2 ^ n := Nat.mul_le_mul_right _ (by omega)
  have e : ((c : Int) * 2 ^ n) = ((c * 2 ^ n : Nat) : Int) := by simp
  rw [e, i64_or_nat _ _ (by omega) (by omega)]
  have h := Nat.shiftLeft_add_eq_or_of_lt ha c
  rw [Nat.shiftLeft_eq] at h
  rw [Nat.or_comm, ← h]
  simp
  omega
end Hf
/-- bits were taken, or there were too few -/
def TakeP (r : Nat) (A : Option Addr) (c : Nat) (bs : List Int) (pos n : Nat) (w : World) (e : Ending) (w' : World) : Prop :=
  w.grownBy w' (some r) ∧ if pos + n ≤ 8 * bs.length then e = .returned (.tuple #[.int .i64 (Hf.takeVal bs pos n), .bool true]) ∧ BitsAt w' r A c bs (pos + n) else e = .returned (.tuple #[.int .i64 0, .bool false]) ∧ BitsAt w' r A c bs pos
set_option maxRecDepth 100000 in
set_option maxHeartbeats 2000000 in
theorem take_any (r : Nat) (A : Option Addr) (c : Nat) (bs : List Int) (pos n : Nat) (w : World) (h : BitsAt w r A c bs pos) (hn : n ≤ 24) :
    Calls Try.prog 20 #[.pointer (some ⟨r, 0, none⟩), .int .i64 n] w (TakeP r A c bs pos n w) := by
  have HH := Lib.hid h
  have HL := Lib.hid (left_any r A c bs pos w h)
  obtain ⟨-, -, -, hp, hlen, -⟩ := h
  obtain ⟨m, hm⟩ : ∃ m, m = bs.length := ⟨_, rfl⟩
  rw [← hm] at HL hp hlen
  have HM := Lib.hid hm
  clear hm
  by_cases hok : pos + n ≤ 8 * m
  · obtain ⟨lf, hlf⟩ : ∃ lf : Nat, lf = 8 * m - pos := ⟨_, rfl⟩
    rw [← hlf] at HL
    have hsz : ¬ ((lf : Int) < (n : Int)) := by omega
    have hszn : ¬ (lf < n) := by omega
    have hn0 : ¬ ((n : Int) < 0) := by omega
    have hn24 : ¬ ((24 : Int) < (n : Int)) := by omega
    clear hlf
    go_enter Try.func20, Try.ntmps20
    go_wp2_with (first
      | (go_at_call 28; refine HL.out.mono ?_; rintro e w2 ⟨rfl, q2, rfl⟩))
    go_loopw [6, 7, 25] (fun v _ idx wr => ∃ k : Nat, k ≤ n ∧ idx = .int .i64 k ∧ v = .int .i64 (Hf.takeVal bs pos k) ∧ Hid (BitsAt wr r A c bs (pos + k)) ∧ Hid (w.grownBy wr (some r))) (fun _ _ idx _ => n - (intOf idx).toNat)
    case atStart => exact ⟨0, by omega, rfl, rfl, HH.out.drewN q2, grownBy_drewN (grownBy_refl w _) q2⟩
    case round =>
      obtain ⟨k, hk, rfl, rfl, HB, HG⟩ := hrel
      by_cases hlt : k < n
      · have HO := Lib.hid (one_any r A c bs (pos + k) wr HB.out (by rw [← HM.out]; omega))
        have hTV := Hf.takeVal_range bs pos k
        have hBR := Hf.bitAt_range bs (pos + k)
        have HTV : Hid (Hf.takeVal bs pos (k + 1) = Hf.takeVal bs pos k + Hf.bitAt bs (pos + k) * 2 ^ k) := rfl
        obtain ⟨V, hV⟩ : ∃ V, V = Hf.takeVal bs pos k := ⟨_, rfl⟩
        obtain ⟨b, hb⟩ : ∃ b, b = Hf.bitAt bs (pos + k) := ⟨_, rfl⟩
        rw [← hV] at hTV HTV ⊢
        rw [← hb] at hBR HTV HO
        have hor := Hf.or_up V b k hTV.1 hTV.2 (by omega) hBR.1 hBR.2
        have HOR := Lib.hid hor
        have hpk : (2 : Int) ^ k ≤ 16777216 := by
          have h1 : (2 : Nat) ^ k ≤ 16777216 := Nat.le_trans (Nat.pow_le_pow_right (by omega) (by omega : k ≤ 24)) (by decide)
          have h2 : (2 : Int) ^ k = ((2 ^ k : Nat) : Int) := by simp
          rw [h2]
          omega
        have hpk0 : (0 : Int) < 2 ^ k := Int.pow_pos (by omega)
        have hbp : 0 ≤ b * 2 ^ k ∧ b * 2 ^ k ≤ 16777216 := by
          have : b = 0 ∨ b = 1 := by omega
          rcases this with rfl | rfl <;> omega
        have HBP := Lib.hid hbp
        clear hV hb hor
        go_wp2_with (first
          | (go_at_call 29; refine HO.out.mono ?_; rintro e w3 ⟨rfl, hb3, hg3⟩; have HB3 := Lib.hid hb3; have HG3 := Lib.hid (grownBy_trans HG.out hg3); clear hb3 hg3))
        go_roundw
        case rel => exact ⟨k + 1, by omega, by go_num, by rw [HTV.out, HOR.out], HB3.out, HG3.out⟩
        case measure => simp [intOf]; omega
      · obtain rfl : n = k := by omega
        go_wp2_with fail
        go_ret2
        refine ⟨HG.out, ?_⟩
        rw [if_pos (by rw [← HM.out]; exact hok)]
        exact ⟨rfl, HB.out⟩
  · have hsz : ((8 * m - pos : Nat) : Int) < (n : Int) := by omega
    go_enter Try.func20, Try.ntmps20
    go_wp2_with (first
      | (go_at_call 28; refine HL.out.mono ?_; rintro e w2 ⟨rfl, q2, rfl⟩))
    go_ret2
    refine ⟨grownBy_drewN (grownBy_refl w _) q2, ?_⟩
    rw [if_neg (by rw [← HM.out]; exact hok)]
    exact ⟨rfl, HH.out.drewN q2⟩
end Go.Proofs.Ytcjdeinmmokdgaa
