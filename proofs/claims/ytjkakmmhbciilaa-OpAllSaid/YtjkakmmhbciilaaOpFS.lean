/- squealref07: bits, filled. (printed by wip/gen/gen_opsi.py) -/
import Derived.Test.YtjkakmmhbciilaaOpFR
import Derived.Test.YtjkakmmhbciilaaOpFF
namespace Go.Proofs.Ytjkakmmhbciilaa
set_option linter.unusedSimpArgs false
set_option linter.unusedVariables false
open Go.RowKit Go.Sort
theorem cell_new (u : World) (cs : Array Value) (T : TypeId) (i : Nat) : (u.alloc (.cells cs T)).cell? ⟨u.heap.size, i, none⟩ = cs[i]? := World.cell?_alloc_mark u cs T (0, 0) i
theorem turn_cell (i : Nat) (h : i < 8) (u : World) : (u.alloc (.cells #[.string ⟨#[114, 108, 99]⟩, .string ⟨#[114, 114, 99]⟩, .string ⟨#[114, 108]⟩, .string ⟨#[114, 114]⟩, .string ⟨#[115, 108, 97]⟩, .string ⟨#[115, 114, 97]⟩, .string ⟨#[115, 108, 108]⟩, .string ⟨#[115, 114, 108]⟩] 9)).cell? ⟨u.heap.size, i, none⟩ = some (.string ⟨(turnL.getD i []).toArray⟩) := by
  rw [cell_new]
  have : i = 0 ∨ i = 1 ∨ i = 2 ∨ i = 3 ∨ i = 4 ∨ i = 5 ∨ i = 6 ∨ i = 7 := by omega
  rcases this with rfl | rfl | rfl | rfl | rfl | rfl | rfl | rfl <;> rfl
set_option maxRecDepth 100000 in
set_option maxHeartbeats 4000000 in
theorem bits7_low (c : Int) (m : List UInt8) (h0 : 0 ≤ c) (h1 : c < 64) (ml : m.length ≤ 16) : Gives 31 #[.int .u8 c, .string ⟨m.toArray⟩] (.string ⟨(bitsT id m (c / 64) (c / 8 % 8)).toArray⟩) := by
  intro w
  obtain ⟨i, hi⟩ : ∃ i : Nat, c / 8 = i := ⟨(c / 8).toNat, by omega⟩
  have hc := turn_cell i (by omega)
  have tl := turnL_len i
  have HR : Hid (bitsT id m (c / 64) (c / 8 % 8) = turnL.getD i [] ++ [32] ++ m) := by
    show _ = _
    unfold bitsT
    rw [if_pos (by omega), show (c / 8 % 8).toNat = i by omega]
    rfl
  obtain ⟨tn, ht⟩ : ∃ tn, tn = turnL.getD i [] := ⟨_, rfl⟩
  rw [← ht] at hc tl HR
  clear ht
  have HD := Lib.hid (fun w => digits7_any (i : Int) w (by omega) (by omega))
  have t0 : IntKind.i64.wrap (c / 8) = c / 8 := by rw [IntKind.wrap_i64]; omega
  have tA : Int.tdiv c 8 = i := by rw [Int.tdiv_eq_ediv_of_nonneg h0]; exact hi
  have t1 : Int.tmod (i : Int) 8 = i := by rw [Int.tmod_eq_emod_of_nonneg (by omega)]; omega
  have i8 : (i : Int) < 8 := by omega
  have i9 : i < 8 := by omega
  obtain ⟨D, hD⟩ : ∃ D, D = wholeS (i : Int) := ⟨_, rfl⟩
  rw [← hD] at HD
  clear hi hD
  go_enter Try.func31, Try.ntmps31
  go_wp2_with (first
    | (go_at_call 58; refine (HD.out _).mono ?_; rintro e w' ⟨rfl, rfl⟩))
  go_ret
  refine ⟨?_, below_box _ _⟩
  rw [HR.out]
  exact str_of' (by simp only [← app_data])
set_option maxRecDepth 100000 in
set_option maxHeartbeats 4000000 in
theorem bits7_1 (c : Int) (m : List UInt8) (h0 : 64 ≤ c) (h1 : c < 128) (ml : m.length ≤ 16) : Gives 31 #[.int .u8 c, .string ⟨m.toArray⟩] (.string ⟨(bitsT id m (c / 64) (c / 8 % 8)).toArray⟩) := by
  intro w
  obtain ⟨i, hi⟩ : ∃ i : Nat, c / 8 % 8 = i := ⟨(c / 8 % 8).toNat, by omega⟩
  have HR : Hid (bitsT id m (c / 64) (c / 8 % 8) = [98, 105, 116, 32] ++ [dg (i : Int)] ++ [44] ++ m) := by
    show _ = _
    rw [show c / 64 = 1 by omega, hi]
    rfl
  have HD := Lib.hid (fun w => digits7_any (i : Int) w (by omega) (by omega))
  have hW : wholeS (i : Int) = [dg (i : Int)] := by unfold wholeS; rw [if_pos (by omega)]
  rw [hW] at HD
  have t0 : IntKind.i64.wrap (c / 8) = c / 8 := by rw [IntKind.wrap_i64]; omega
  have tA : Int.tdiv c 8 = c / 8 := by rw [Int.tdiv_eq_ediv_of_nonneg (by omega)]
  have t1 : Int.tmod (c / 8) 8 = i := by rw [Int.tmod_eq_emod_of_nonneg (by omega)]; exact hi
  have tB : Int.tdiv c 64 = 1 := by rw [Int.tdiv_eq_ediv_of_nonneg (by omega)]; omega
  have i8 : (i : Int) < 8 := by omega
  have t3 : (0 : Int) ≤ c / 8 := by omega
  have c6 : ¬ (c < 64) := by omega
  obtain ⟨D, hD⟩ : ∃ D, D = dg (i : Int) := ⟨_, rfl⟩
  rw [← hD] at HD HR
  clear hi hD hW
  go_enter Try.func31, Try.ntmps31
  go_wp2_with (first
    | (go_at_call 58; refine (HD.out _).mono ?_; rintro e w' ⟨rfl, rfl⟩))
  go_ret
  refine ⟨?_, below_box _ _⟩
  rw [HR.out]
  exact str_of' (by first | rfl | (simp only [← app_data]; done) | (simp only [← app_data]; rfl) | (simp only [app_data, List.append_assoc, List.cons_append, List.nil_append]))
set_option maxRecDepth 100000 in
set_option maxHeartbeats 4000000 in
theorem bits7_2 (c : Int) (m : List UInt8) (h0 : 128 ≤ c) (h1 : c < 192) (ml : m.length ≤ 16) : Gives 31 #[.int .u8 c, .string ⟨m.toArray⟩] (.string ⟨(bitsT id m (c / 64) (c / 8 % 8)).toArray⟩) := by
  intro w
  obtain ⟨i, hi⟩ : ∃ i : Nat, c / 8 % 8 = i := ⟨(c / 8 % 8).toNat, by omega⟩
  have HR : Hid (bitsT id m (c / 64) (c / 8 % 8) = [114, 101, 115, 32] ++ [dg (i : Int)] ++ [44] ++ m) := by
    show _ = _
    rw [show c / 64 = 2 by omega, hi]
    rfl
  have HD := Lib.hid (fun w => digits7_any (i : Int) w (by omega) (by omega))
  have hW : wholeS (i : Int) = [dg (i : Int)] := by unfold wholeS; rw [if_pos (by omega)]
  rw [hW] at HD
  have t0 : IntKind.i64.wrap (c / 8) = c / 8 := by rw [IntKind.wrap_i64]; omega
  have tA : Int.tdiv c 8 = c / 8 := by rw [Int.tdiv_eq_ediv_of_nonneg (by omega)]
  have t1 : Int.tmod (c / 8) 8 = i := by rw [Int.tmod_eq_emod_of_nonneg (by omega)]; exact hi
  have tB : Int.tdiv c 64 = 2 := by rw [Int.tdiv_eq_ediv_of_nonneg (by omega)]; omega
  have i8 : (i : Int) < 8 := by omega
  have t3 : (0 : Int) ≤ c / 8 := by omega
  have c6 : ¬ (c < 64) := by omega
  obtain ⟨D, hD⟩ : ∃ D, D = dg (i : Int) := ⟨_, rfl⟩
  rw [← hD] at HD HR
  clear hi hD hW
  go_enter Try.func31, Try.ntmps31
  go_wp2_with (first
    | (go_at_call 58; refine (HD.out _).mono ?_; rintro e w' ⟨rfl, rfl⟩))
  go_ret
  refine ⟨?_, below_box _ _⟩
  rw [HR.out]
  exact str_of' (by first | rfl | (simp only [← app_data]; done) | (simp only [← app_data]; rfl) | (simp only [app_data, List.append_assoc, List.cons_append, List.nil_append]))
set_option maxRecDepth 100000 in
set_option maxHeartbeats 4000000 in
theorem bits7_3 (c : Int) (m : List UInt8) (h0 : 192 ≤ c) (h1 : c < 256) (ml : m.length ≤ 16) : Gives 31 #[.int .u8 c, .string ⟨m.toArray⟩] (.string ⟨(bitsT id m (c / 64) (c / 8 % 8)).toArray⟩) := by
  intro w
  obtain ⟨i, hi⟩ : ∃ i : Nat, c / 8 % 8 = i := ⟨(c / 8 % 8).toNat, by omega⟩
  have HR : Hid (bitsT id m (c / 64) (c / 8 % 8) = [115, 101, 116, 32] ++ [dg (i : Int)] ++ [44] ++ m) := by
    show _ = _
    rw [show c / 64 = 3 by omega, hi]
    rfl
  have HD := Lib.hid (fun w => digits7_any (i : Int) w (by omega) (by omega))
  have hW : wholeS (i : Int) = [dg (i : Int)] := by unfold wholeS; rw [if_pos (by omega)]
  rw [hW] at HD
  have t0 : IntKind.i64.wrap (c / 8) = c / 8 := by rw [IntKind.wrap_i64]; omega
  have tA : Int.tdiv c 8 = c / 8 := by rw [Int.tdiv_eq_ediv_of_nonneg (by omega)]
  have t1 : Int.tmod (c / 8) 8 = i := by rw [Int.tmod_eq_emod_of_nonneg (by omega)]; exact hi
  have tB : Int.tdiv c 64 = 3 := by rw [Int.tdiv_eq_ediv_of_nonneg (by omega)]; omega
  have i8 : (i : Int) < 8 := by omega
  have t3 : (0 : Int) ≤ c / 8 := by omega
  have c6 : ¬ (c < 64) := by omega
  obtain ⟨D, hD⟩ : ∃ D, D = dg (i : Int) := ⟨_, rfl⟩
  rw [← hD] at HD HR
  clear hi hD hW
  go_enter Try.func31, Try.ntmps31
  go_wp2_with (first
    | (go_at_call 58; refine (HD.out _).mono ?_; rintro e w' ⟨rfl, rfl⟩))
  go_ret
  refine ⟨?_, below_box _ _⟩
  rw [HR.out]
  exact str_of' (by first | rfl | (simp only [← app_data]; done) | (simp only [← app_data]; rfl) | (simp only [app_data, List.append_assoc, List.cons_append, List.nil_append]))
theorem bits7_any (c : Int) (m : List UInt8) (h0 : 0 ≤ c) (h1 : c ≤ 255) (ml : m.length ≤ 16) : Gives 31 #[.int .u8 c, .string ⟨m.toArray⟩] (.string ⟨(bitsT id m (c / 64) (c / 8 % 8)).toArray⟩) := by
  by_cases k1 : c < 64
  · exact bits7_low c m h0 k1 ml
  by_cases k2 : c < 128
  · exact bits7_1 c m (by omega) k2 ml
  by_cases k3 : c < 192
  · exact bits7_2 c m (by omega) k3 ml
  exact bits7_3 c m (by omega) (by omega) ml
theorem swapS_len : ∀ (s p b : List UInt8), (swapS s p b).length ≤ s.length + b.length
  | [], _, _ => by simp [swapS]
  | c :: t, p, b => by
    rw [swapS]
    split
    · rw [List.length_append, List.length_drop]; omega
    · have := swapS_len t p b
      simp only [List.length_cons]
      omega
/-- a text with its letters filled in -/
def fillS (t N W E : List UInt8) : List UInt8 := swapS (swapS (swapS t [78] N) [87] W) [69] E
set_option maxRecDepth 100000 in
set_option maxHeartbeats 8000000 in
theorem filled_any (t : List UInt8) (s ix c d n ln pc : Int) (hr : Rng c d n ln pc) (tl : t.length ≤ 100) :
    Gives 30 #[.string ⟨t.toArray⟩, .agg #[.int .i64 s, .int .i64 ix, .int .u8 c, .int .u8 d, .int .u16 n, .int .i64 ln], .int .u16 pc] (.string ⟨(fillS t (hxS 2 (n % 256)) (hxS 4 n) (targetS n ln pc)).toArray⟩) := by
  intro w
  obtain ⟨n0, n1⟩ := hr.n
  obtain ⟨l0, l1⟩ := hr.l
  obtain ⟨p0, p1⟩ := hr.pc
  have e1 : hxS 2 (n % 256) = [36] ++ hx 2 (n % 256) := hxS_hx _ _
  have e2 : hxS 4 n = [36] ++ hx 4 n := hxS_hx _ _
  have e3 : targetS n ln pc = [36] ++ hx 4 (plusS ((pc + ln) % 65536) (n % 256)) := hxS_hx _ _
  have hpr := plusS_ran ((pc + ln) % 65536) (n % 256)
  have HPL := Lib.hid (fun w => plus3_any ((pc + ln) % 65536) (n % 256) w ⟨by omega, by omega⟩ ⟨by omega, by omega⟩)
  obtain ⟨E0, hE0⟩ : ∃ E0, E0 = plusS ((pc + ln) % 65536) (n % 256) := ⟨_, rfl⟩
  rw [← hE0] at e3 hpr HPL
  obtain ⟨E1, E2⟩ := hpr
  have HD1 := Lib.hid (fun w => digits6_any 2 (n % 256) _ rfl w (by omega) (by omega) (by omega))
  have HD2 := Lib.hid (fun w => digits6_any 4 n _ rfl w (by omega) (by omega) (by omega))
  have HD3 := Lib.hid (fun w => digits6_any 4 E0 _ rfl w (by omega) (by omega) (by omega))
  have b1 := hx_len 2 (n % 256)
  have b2 := hx_len 4 n
  have b3 := hx_len 4 E0
  obtain ⟨h1, hh1⟩ : ∃ x, x = hx 2 (n % 256) := ⟨_, rfl⟩
  obtain ⟨h2, hh2⟩ : ∃ x, x = hx 4 n := ⟨_, rfl⟩
  obtain ⟨h3, hh3⟩ : ∃ x, x = hx 4 E0 := ⟨_, rfl⟩
  rw [← hh1] at e1 HD1 b1
  rw [← hh2] at e2 HD2 b2
  rw [← hh3] at e3 HD3 b3
  have l_1 := swapS_len t [78] ([36] ++ h1)
  have HS1 := Lib.hid (fun w => swap_any t [78] ([36] ++ h1) w (by omega) (by decide) (by simp; omega) (by decide))
  obtain ⟨t1, ht1⟩ : ∃ x, x = swapS t [78] ([36] ++ h1) := ⟨_, rfl⟩
  rw [← ht1] at l_1 HS1
  have l_2 := swapS_len t1 [87] ([36] ++ h2)
  have HS2 := Lib.hid (fun w => swap_any t1 [87] ([36] ++ h2) w (by simp at l_1; omega) (by decide) (by simp; omega) (by decide))
  obtain ⟨t2, ht2⟩ : ∃ x, x = swapS t1 [87] ([36] ++ h2) := ⟨_, rfl⟩
  rw [← ht2] at l_2 HS2
  have HS3 := Lib.hid (fun w => swap_any t2 [69] ([36] ++ h3) w (by simp at l_1 l_2; omega) (by decide) (by simp; omega) (by decide))
  have HR : Hid (fillS t (hxS 2 (n % 256)) (hxS 4 n) (targetS n ln pc) = swapS t2 [69] ([36] ++ h3)) := by
    show _ = _
    rw [e1, e2, e3, fillS, ← ht1, ← ht2]
  obtain ⟨t3, ht3⟩ : ∃ x, x = swapS t2 [69] ([36] ++ h3) := ⟨_, rfl⟩
  rw [← ht3] at HS3 HR
  have q1 : Int.tmod n 256 = n % 256 := Int.tmod_eq_emod_of_nonneg n0
  have q2 : Int.tmod (pc + ln) 65536 = (pc + ln) % 65536 := Int.tmod_eq_emod_of_nonneg (by omega)
  have sz1 : h1.length ≤ 10 := by omega
  have sz2 : h2.length ≤ 10 := by omega
  have sz3 : h3.length ≤ 10 := by omega
  clear e1 e2 e3 hE0 b1 b2 b3 hh1 hh2 hh3 l_1 l_2 ht1 ht2 ht3
  have HB0 := Lib.hid (Blk.new w 29 [.int .i64 s, .int .i64 ix, .int .u8 c, .int .u8 d, .int .u16 n, .int .i64 ln])
  go_enter Try.func30, Try.ntmps30
  go_wp2_with (first
    | (go_at_call_of 56 (Value.int .i64 2); refine (HD1.out _).mono ?_; rintro e w' ⟨rfl, rfl⟩)
    | (go_at_call_of 56 (Value.int .i64 n); refine (HD2.out _).mono ?_; rintro e w' ⟨rfl, rfl⟩)
    | (go_at_call_of 56 (Value.int .i64 E0); refine (HD3.out _).mono ?_; rintro e w' ⟨rfl, rfl⟩)
    | (go_at_call 57; refine (HPL.out _).mono ?_; rintro e w' ⟨rfl, rfl⟩)
    | (go_at_call_of 54 (Value.string ⟨#[78]⟩); refine (HS1.out _).mono ?_; rintro e w1 ⟨rfl, hb1⟩; have HB1 := Lib.hid (HB0.out.below_ hb1); have c1 := HB1.out.cell 4; have BB1 := Lib.hid ((below_box _ _).trans (hb1.mono (by simp))); clear hb1)
    | (go_at_call_of 54 (Value.string ⟨#[87]⟩); refine (HS2.out _).mono ?_; rintro e w2 ⟨rfl, hb2⟩; have HB2 := Lib.hid (HB1.out.below_ hb2); clear c1; have c2 := HB2.out.cell 4; have c3 := HB2.out.cell 5; have BB2 := Lib.hid (BB1.out.trans (hb2.mono BB1.out.size)); clear hb2)
    | (go_at_call_of 54 (Value.string ⟨#[69]⟩); refine (HS3.out _).mono ?_; rintro e w3 ⟨rfl, hb3⟩; have BB3 := Lib.hid (BB2.out.trans (hb3.mono BB2.out.size)); clear hb3))
  go_ret
  exact ⟨by rw [HR.out]; rfl, BB3.out⟩
end Go.Proofs.Ytjkakmmhbciilaa
