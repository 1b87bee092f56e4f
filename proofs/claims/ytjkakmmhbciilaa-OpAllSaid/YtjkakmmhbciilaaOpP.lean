/- op: away, reg, pair; wide.Plus, target. -/
import Derived.Test.YtjkakmmhbciilaaOpO
namespace Go.Proofs.Ytjkakmmhbciilaa
set_option linter.unusedSimpArgs false
set_option linter.unusedVariables false
open Go.RowKit
theorem i8_at : ∀ n < 256, IntKind.i8.wrap (n : Nat) = (if (n : Int) < 128 then (n : Int) else (n : Int) - 256) ∧ IntKind.i16.wrap (if (n : Int) < 128 then (n : Int) else (n : Int) - 256) = (if (n : Int) < 128 then (n : Int) else (n : Int) - 256) := by decide +kernel
theorem i8_low (d : Int) (h0 : 0 ≤ d) (h1 : d < 128) : IntKind.i8.wrap d = d ∧ IntKind.i16.wrap d = d := by
  obtain ⟨n, rfl⟩ := Int.eq_ofNat_of_zero_le h0
  have h := i8_at n (by omega)
  rw [if_pos h1] at h
  exact h
theorem i8_high (d : Int) (h0 : 128 ≤ d) (h1 : d ≤ 255) : IntKind.i8.wrap d = d - 256 ∧ IntKind.i16.wrap (d - 256) = d - 256 := by
  obtain ⟨n, rfl⟩ := Int.eq_ofNat_of_zero_le (show 0 ≤ d by omega)
  have h := i8_at n (by omega)
  rw [if_neg (by omega)] at h
  exact h
def awayS (ix d : Int) : List UInt8 := if 128 ≤ d then [40] ++ ixn ix ++ [45] ++ wholeS (256 - d) ++ [41] else [40] ++ ixn ix ++ [43] ++ wholeS d ++ [41]
theorem awayS_len (ix d : Int) : (awayS ix d).length ≤ 10 := by
  unfold awayS
  have h1 := ixn_len ix
  have h2 := wholeS_len (256 - d)
  have h3 := wholeS_len d
  split <;> simp <;> omega
set_option maxHeartbeats 1000000 in
theorem away_any (s ix c d n ln : Int) (w : World) (hd : B8 d) : Calls Try.prog 24 #[.agg #[.int .i64 s, .int .i64 ix, .int .u8 c, .int .u8 d, .int .u16 n, .int .i64 ln]] w fun e w' => e = .returned (.string ⟨(awayS ix d).toArray⟩) ∧ Below w.heap.size w w' := by
  obtain ⟨d0, d1⟩ := hd
  have HI := Lib.hid (fun w => opIndex_any ix w)
  have tl := ixn_len ix
  obtain ⟨t, ht⟩ : ∃ t, t = ixn ix := ⟨_, rfl⟩
  obtain ⟨R, hR⟩ : ∃ R, R = awayS ix d := ⟨_, rfl⟩
  rw [← hR]
  unfold awayS at hR
  rw [← ht] at HI tl hR
  have tl2 : t.length ≤ 2 := by omega
  clear tl ht
  by_cases k : 128 ≤ d
  · rw [if_pos k] at hR
    have HW := Lib.hid (fun w => whole_any (256 - d) w (by omega) (by omega))
    have ul := wholeS_len (256 - d)
    obtain ⟨u, hu⟩ : ∃ u, u = wholeS (256 - d) := ⟨_, rfl⟩
    rw [← hu] at HW hR ul
    have HR := Lib.hid hR
    clear hu hR
    have e1 := (i8_high d k d1).1
    have e2 : -(d - 256) = 256 - d := by omega
    go_enter Try.func24, Try.ntmps24
    go_wp2_with (first
      | (go_at_call 26; refine (HI.out _).mono ?_; rintro e w' ⟨rfl, rfl⟩)
      | (go_at_call 47; refine (HW.out _).mono ?_; rintro e w' ⟨rfl, rfl⟩))
    go_ret
    refine ⟨?_, (Below.refl _ _).alloc (Nat.le_refl _) _⟩
    rw [HR.out]
    exact congrArg (fun x => Ending.returned (Value.string x)) (by simp only [← app_data])
  · rw [if_neg k] at hR
    have HW := Lib.hid (fun w => whole_any d w (by omega) (by omega))
    have ul := wholeS_len d
    obtain ⟨u, hu⟩ : ∃ u, u = wholeS d := ⟨_, rfl⟩
    rw [← hu] at HW hR ul
    have HR := Lib.hid hR
    clear hu hR
    have e1 := (i8_low d d0 (by omega)).1
    go_enter Try.func24, Try.ntmps24
    go_wp2_with (first
      | (go_at_call 26; refine (HI.out _).mono ?_; rintro e w' ⟨rfl, rfl⟩)
      | (go_at_call 47; refine (HW.out _).mono ?_; rintro e w' ⟨rfl, rfl⟩))
    go_ret
    refine ⟨?_, (Below.refl _ _).alloc (Nat.le_refl _) _⟩
    rw [HR.out]
    exact congrArg (fun x => Ending.returned (Value.string x)) (by simp only [← app_data])
theorem ret_u16 {a b : Int} (h : a = b) : Ending.returned (.int .u16 a) = .returned (.int .u16 b) := by rw [h]
def plusS (x d : Int) : Int := (x + (if d < 128 then d else d - 256)) % 65536
theorem plusS_ran (x d : Int) : B16 (plusS x d) := ⟨by unfold plusS; omega, by unfold plusS; omega⟩
set_option maxHeartbeats 1000000 in
theorem plus_any (x d : Int) (w : World) (hx : B16 x) (hd : B8 d) : Calls Try.prog 64 #[.int .u16 x, .int .u8 d] w fun e w' => e = .returned (.int .u16 (plusS x d)) ∧ w = w' := by
  obtain ⟨x0, x1⟩ := hx
  obtain ⟨d0, d1⟩ := hd
  obtain ⟨R, hR⟩ : ∃ R, R = plusS x d := ⟨_, rfl⟩
  rw [← hR]
  unfold plusS at hR
  by_cases k : d < 128
  · rw [if_pos k] at hR
    have HR := Lib.hid hR
    obtain ⟨e1, e2⟩ := i8_low d d0 k
    have e3 : IntKind.u16.wrap d = d := by rw [IntKind.wrap_u16]; omega
    clear hR
    go_enter Try.func64, Try.ntmps64
    go_wp2_with fail
    go_ret
    refine ⟨ret_u16 ?_, rfl⟩
    have h := HR.out
    first | omega | (rw [h, IntKind.wrap_u16]; omega) | (simp only [IntKind.wrap_u16]; omega)
  · rw [if_neg k] at hR
    have HR := Lib.hid hR
    obtain ⟨e1, e2⟩ := i8_high d (by omega) d1
    have e3 : IntKind.u16.wrap (d - 256) = d + 65280 := by rw [IntKind.wrap_u16]; omega
    clear hR
    go_enter Try.func64, Try.ntmps64
    go_wp2_with fail
    go_ret
    refine ⟨ret_u16 ?_, rfl⟩
    have h := HR.out
    first | omega | (rw [h, IntKind.wrap_u16]; omega) | (simp only [IntKind.wrap_u16]; omega)
/-- a text of a number with so many digits -/
def hxS (n : Nat) (x : Int) : List UInt8 := (36 :: hexS n x).map fun y => UInt8.ofNat y.toNat
theorem hxS_len (n : Nat) (x : Int) : (hxS n x).length = n + 1 := by simp [hxS, hexS_len]
theorem hxS_any (n : Nat) (x : Int) (w : World) (hx : B16 x) (hn : n ≤ 100) :
    Calls Try.prog 46 #[.int .u16 x, .int .i64 n] w fun e w' => e = .returned (.string ⟨(hxS n x).toArray⟩) ∧ Below w.heap.size w w' := hex_any n x w hx hn
def targetS (n ln pc : Int) : List UInt8 := hxS 4 (plusS ((pc + ln) % 65536) (n % 256))
set_option maxHeartbeats 1000000 in
theorem target_any (s ix c d n ln pc : Int) (w : World) (hn : B16 n) (hl : 0 ≤ ln ∧ ln ≤ 8) (hp : B16 pc) : Calls Try.prog 60 #[.agg #[.int .i64 s, .int .i64 ix, .int .u8 c, .int .u8 d, .int .u16 n, .int .i64 ln], .int .u16 pc] w fun e w' => e = .returned (.string ⟨(targetS n ln pc).toArray⟩) ∧ Below w.heap.size w w' := by
  unfold targetS
  have HP := Lib.hid (fun w => plus_any ((pc + ln) % 65536) (n % 256) w ⟨by omega, by omega⟩ ⟨by omega, by omega⟩)
  have HX := Lib.hid (fun w => hxS_any 4 (plusS ((pc + ln) % 65536) (n % 256)) w (plusS_ran _ _) (by decide))
  obtain ⟨R, hR⟩ : ∃ R, R = hxS 4 (plusS ((pc + ln) % 65536) (n % 256)) := ⟨_, rfl⟩
  rw [← hR] at HX ⊢
  obtain ⟨q, hq⟩ : ∃ q, q = plusS ((pc + ln) % 65536) (n % 256) := ⟨_, rfl⟩
  rw [← hq] at HX HP
  clear hR hq
  obtain ⟨n0, n1⟩ := hn
  obtain ⟨l0, l1⟩ := hl
  obtain ⟨p0, p1⟩ := hp
  have e1 : IntKind.u8.wrap n = n % 256 := by rw [IntKind.wrap_u8]
  have e2 : IntKind.u16.wrap ln = ln := by rw [IntKind.wrap_u16]; omega
  have e3 : IntKind.u16.wrap (pc + ln) = (pc + ln) % 65536 := by rw [IntKind.wrap_u16]
  go_enter Try.func60, Try.ntmps60
  go_wp2_with (first
    | (go_at_call 64; refine (HP.out _).mono ?_; rintro e w' ⟨rfl, rfl⟩)
    | (go_at_call 46; refine (HX.out _).mono ?_; rintro e w1 ⟨rfl, hb⟩))
  go_ret
  exact ⟨rfl, ((Below.refl _ w).alloc (Nat.le_refl _) _).trans (hb.mono (by simp))⟩
end Go.Proofs.Ytjkakmmhbciilaa
