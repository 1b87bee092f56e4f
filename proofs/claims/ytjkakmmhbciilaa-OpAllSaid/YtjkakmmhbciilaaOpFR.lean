/- squealref07: name, digits, Away, swap; squealref06.Digits; squealref03.Plus. -/
import Derived.Test.YtjkakmmhbciilaaOpP
import Derived.LoopN
import Derived.BigQuiet
namespace Go.Proofs.Ytjkakmmhbciilaa
set_option linter.unusedSimpArgs false
set_option linter.unusedVariables false
open Go.RowKit
/-- a digit's sign -/
def hd (x : Int) : UInt8 := UInt8.ofNat (hexd x).toNat
def hx (n : Nat) (x : Int) : List UInt8 := (hexS n x).map fun y => UInt8.ofNat y.toNat
theorem hx_len (n : Nat) (x : Int) : (hx n x).length = n := by simp [hx, hexS_len]
theorem hxS_hx (n : Nat) (x : Int) : hxS n x = [36] ++ hx n x := rfl
theorem hd_at : ∀ k : Nat, k < 16 → (⟨#[48, 49, 50, 51, 52, 53, 54, 55, 56, 57, 97, 98, 99, 100, 101, 102]⟩ : ByteArray).extract k (k + 1) = ⟨#[hd (k : Nat)]⟩ := by decide +kernel
theorem hd_of (x : Int) (h0 : 0 ≤ x) (h1 : x < 16) : (⟨#[48, 49, 50, 51, 52, 53, 54, 55, 56, 57, 97, 98, 99, 100, 101, 102]⟩ : ByteArray).extract x.toNat (x + 1).toNat = ⟨#[hd x]⟩ := by
  obtain ⟨n, rfl⟩ := Int.eq_ofNat_of_zero_le h0
  have h := hd_at n (by omega)
  have e : ((n : Int) + 1).toNat = n + 1 := by omega
  rw [e, Int.toNat_natCast]
  exact h
theorem hx_succ (n : Nat) (x : Int) (l : List UInt8) : hx (n + 1) x ++ l = hx n (x / 16) ++ (hd (x % 16) :: l) := by simp [hx, hexS, hd]
set_option maxHeartbeats 2000000 in
theorem digits6_any (n : Nat) (x : Int) (s : List UInt8) (hs : s = hx n x) (w : World) (h0 : 0 ≤ x) (h1 : x ≤ 1000000) (hn : n ≤ 100) :
    Calls Try.prog 56 #[.int .i64 x, .int .i64 n] w fun e w' => e = .returned (.string ⟨s.toArray⟩) ∧ w = w' := by
  have HS : Hid (hx n x ++ [] = s) := by show _ = _; rw [hs, List.append_nil]
  clear hs
  go_enter Try.func56, Try.ntmps56
  go_wp2_with fail
  go_loop [0, 6, 7] (fun y t i => ∃ (j : Nat) (l : List UInt8) (z : Int), j ≤ n ∧ i = .int .i64 j ∧ y = .int .i64 z ∧ t = .string ⟨l.toArray⟩ ∧ 0 ≤ z ∧ z ≤ 1000000 ∧ l.length ≤ j ∧ Hid (hx (n - j) z ++ l = s)) (fun _ _ i => n - (intOf i).toNat)
  case atStart => exact ⟨0, [], x, by omega, rfl, rfl, rfl, h0, h1, Nat.le_refl _, HS⟩
  case round =>
    obtain ⟨j, l, z, hj, rfl, rfl, rfl, z0, z1, hl, HL⟩ := hrel
    by_cases hlt : j < n
    · have e0 := hd_of (z % 16) (by omega) (by omega)
      have hw : IntKind.i64.wrap (z % 16 + 1) = z % 16 + 1 := by rw [IntKind.wrap_i64]; omega
      have hq : ¬ 9223372036854775807 < 1 + l.length := by omega
      have hq2 : ¬ 9223372036854775806 < l.length := by omega
      go_wp2_with fail
      go_round
      case rel =>
        refine ⟨j + 1, hd (z % 16) :: l, z / 16, by omega, by go_num, rfl, ?_, by omega, by omega, by simp; omega, ?_⟩
        · show Value.string (⟨[hd (z % 16)].toArray⟩ ++ ⟨l.toArray⟩) = _
          rw [app_data]; rfl
        · show _ = _
          have h := HL.out
          have e : n - j = (n - (j + 1)) + 1 := by omega
          rw [e, hx_succ] at h
          exact h
      case measure => simp [intOf]; omega
    · obtain rfl : j = n := by omega
      have hjn : j - j = 0 := by omega
      have HF : Hid (l = s) := by
        have h := HL.out
        rw [hjn] at h
        exact h
      clear hjn
      go_wp2_with fail
      go_ret
      exact ⟨by rw [HF.out]; rfl, rfl⟩
theorem plus3_any (x d : Int) (w : World) (hx : B16 x) (hd : B8 d) : Calls Try.prog 57 #[.int .u16 x, .int .u8 d] w fun e w' => e = .returned (.int .u16 (plusS x d)) ∧ w = w' := by
  obtain ⟨x0, x1⟩ := hx
  obtain ⟨d0, d1⟩ := hd
  have HP : Hid (plusS x d = (x + (if d < 128 then d else d - 256)) % 65536) := rfl
  by_cases k : 128 ≤ d
  · go_enter Try.func57, Try.ntmps57
    go_wp2_with fail
    go_ret
    refine ⟨ret_u16 ?_, rfl⟩
    rw [HP.out, if_neg (by omega)]
    try omega
  · go_enter Try.func57, Try.ntmps57
    go_wp2_with fail
    go_ret
    refine ⟨ret_u16 ?_, rfl⟩
    rw [HP.out, if_pos (by omega)]
    try omega
theorem name7_any (ix : Int) (w : World) : Calls Try.prog 35 #[.int .i64 ix] w fun e w' => e = .returned (.string ⟨(ixn ix).toArray⟩) ∧ w = w' := by
  unfold ixn
  by_cases k : ix = 1
  · subst k
    go_enter Try.func35, Try.ntmps35
    go_wp2_with fail
    go_ret
    exact ⟨rfl, rfl⟩
  · have kb : (ix == 1) = false := by simp [k]
    rw [if_neg k]
    go_enter Try.func35, Try.ntmps35
    go_wp2_with fail
    go_ret
    exact ⟨rfl, rfl⟩
theorem dgt_at : ∀ k : Nat, k < 10 → (⟨#[48, 49, 50, 51, 52, 53, 54, 55, 56, 57]⟩ : ByteArray).extract k (k + 1) = ⟨#[dg (k : Nat)]⟩ := by decide +kernel
theorem dgt_of (x : Int) (h0 : 0 ≤ x) (h1 : x < 10) : (⟨#[48, 49, 50, 51, 52, 53, 54, 55, 56, 57]⟩ : ByteArray).extract x.toNat (x + 1).toNat = ⟨#[dg x]⟩ := by
  obtain ⟨n, rfl⟩ := Int.eq_ofNat_of_zero_le h0
  have h := dgt_at n (by omega)
  have e : ((n : Int) + 1).toNat = n + 1 := by omega
  rw [e, Int.toNat_natCast]
  exact h
set_option maxHeartbeats 2000000 in
theorem digits7_any (n : Int) (w : World) (h0 : 0 ≤ n) (h1 : n < 1000) : Calls Try.prog 58 #[.int .i64 n] w fun e w' => e = .returned (.string ⟨(wholeS n).toArray⟩) ∧ w = w' := by
  have hw : ∀ z : Int, IntKind.i64.wrap (z % 10 + 1) = z % 10 + 1 := fun z => by rw [IntKind.wrap_i64]; omega
  have e0 := dgt_of (n % 10) (by omega) (by omega)
  by_cases k1 : n < 10
  · have HR : Hid (wholeS n = [dg (n % 10)]) := by show _ = _; unfold wholeS; rw [if_pos k1, show n % 10 = n by omega]
    have k2 : ¬ (10 ≤ n) := by omega
    go_enter Try.func58, Try.ntmps58
    go_wp2_with fail
    refine wp_loop_rounds 1 ?_
    rw [rounds_succ]
    go_wp2_with fail
    go_ret
    exact ⟨by rw [HR.out]; rfl, rfl⟩
  · have e1 := dgt_of (n / 10 % 10) (by omega) (by omega)
    by_cases k2 : n < 100
    · have HR : Hid (wholeS n = [dg (n / 10 % 10), dg (n % 10)]) := by show _ = _; unfold wholeS; rw [if_neg k1, if_pos k2, show n / 10 % 10 = n / 10 by omega]
      have k3 : ¬ (10 ≤ n / 10) := by omega
      go_enter Try.func58, Try.ntmps58
      go_wp2_with fail
      refine wp_loop_rounds 2 ?_
      rw [rounds_succ]
      go_wp2_with fail
      rw [rounds_succ]
      go_wp2_with fail
      go_ret
      exact ⟨by rw [HR.out]; rfl, rfl⟩
    · have e2 := dgt_of (n / 10 / 10 % 10) (by omega) (by omega)
      have HR : Hid (wholeS n = [dg (n / 10 / 10 % 10), dg (n / 10 % 10), dg (n % 10)]) := by show _ = _; unfold wholeS; rw [if_neg k1, if_neg k2, show n / 10 / 10 % 10 = n / 100 by omega]
      have k3 : 10 ≤ n / 10 := by omega
      have k4 : ¬ (10 ≤ n / 10 / 10) := by omega
      go_enter Try.func58, Try.ntmps58
      go_wp2_with fail
      refine wp_loop_rounds 3 ?_
      rw [rounds_succ]
      go_wp2_with fail
      rw [rounds_succ]
      go_wp2_with fail
      rw [rounds_succ]
      go_wp2_with fail
      go_ret
      exact ⟨by rw [HR.out]; rfl, rfl⟩
theorem away7_any (ix d : Int) (w : World) (hd : B8 d) : Calls Try.prog 34 #[.int .i64 ix, .int .u8 d] w fun e w' => e = .returned (.string ⟨(awayS ix d).toArray⟩) ∧ w = w' := by
  obtain ⟨d0, d1⟩ := hd
  have HI := Lib.hid (fun w => name7_any ix w)
  have tl := ixn_len ix
  obtain ⟨t, ht⟩ : ∃ t, t = ixn ix := ⟨_, rfl⟩
  obtain ⟨R, hR⟩ : ∃ R, R = awayS ix d := ⟨_, rfl⟩
  rw [← hR]
  unfold awayS at hR
  rw [← ht] at HI tl hR
  have tl2 : t.length ≤ 2 := by omega
  clear tl ht
  by_cases k : 128 ≤ d
  · rw [if_pos k] at hR
    have HW := Lib.hid (fun w => digits7_any (256 - d) w (by omega) (by omega))
    have ul := wholeS_len (256 - d)
    obtain ⟨u, hu⟩ : ∃ u, u = wholeS (256 - d) := ⟨_, rfl⟩
    rw [← hu] at HW hR ul
    have HR := Lib.hid hR
    clear hu hR
    go_enter Try.func34, Try.ntmps34
    go_wp2_with (first
      | (go_at_call 35; refine (HI.out _).mono ?_; rintro e w' ⟨rfl, rfl⟩)
      | (go_at_call 58; refine (HW.out _).mono ?_; rintro e w' ⟨rfl, rfl⟩))
    go_ret
    refine ⟨?_, rfl⟩
    rw [HR.out]
    exact congrArg (fun x => Ending.returned (Value.string x)) (by simp only [← app_data])
  · rw [if_neg k] at hR
    have HW := Lib.hid (fun w => digits7_any d w (by omega) (by omega))
    have ul := wholeS_len d
    obtain ⟨u, hu⟩ : ∃ u, u = wholeS d := ⟨_, rfl⟩
    rw [← hu] at HW hR ul
    have HR := Lib.hid hR
    clear hu hR
    go_enter Try.func34, Try.ntmps34
    go_wp2_with (first
      | (go_at_call 35; refine (HI.out _).mono ?_; rintro e w' ⟨rfl, rfl⟩)
      | (go_at_call 58; refine (HW.out _).mono ?_; rintro e w' ⟨rfl, rfl⟩))
    go_ret
    refine ⟨?_, rfl⟩
    rw [HR.out]
    exact congrArg (fun x => Ending.returned (Value.string x)) (by simp only [← app_data])
/-! ### a part of a text in the place of another one -/
def swapS : List UInt8 → List UInt8 → List UInt8 → List UInt8
  | [], _, _ => []
  | c :: t, p, b => if (c :: t).take p.length == p then b ++ (c :: t).drop p.length else c :: swapS t p b
theorem swapS_short : ∀ (s p b : List UInt8), s.length < p.length → swapS s p b = s
  | [], _, _, _ => rfl
  | c :: t, p, b, h => by
    have hne : ((c :: t).take p.length == p) = false := by
      rw [beq_eq_false_iff_ne]
      intro e
      have := congrArg List.length e
      rw [List.length_take] at this
      omega
    rw [swapS, if_neg (by rw [hne]; decide), swapS_short t p b (by simp at h; omega)]
theorem swapS_hit (s p b : List UInt8) (k : Nat) (hk : k < s.length) (h : ((s.drop k).take p.length == p) = true) : swapS (s.drop k) p b = b ++ s.drop (k + p.length) := by
  rw [List.drop_eq_getElem_cons hk] at h ⊢
  rw [swapS, if_pos h, ← List.drop_eq_getElem_cons hk, List.drop_drop]
theorem swapS_miss (s p b : List UInt8) (k : Nat) (hk : k < s.length) (h : ((s.drop k).take p.length == p) = false) : s.take k ++ swapS (s.drop k) p b = s.take (k + 1) ++ swapS (s.drop (k + 1)) p b := by
  rw [List.drop_eq_getElem_cons hk] at h ⊢
  rw [swapS, if_neg (by rw [h]; decide), List.take_succ_eq_append_getElem hk, List.append_assoc]
  rfl
theorem ext_pre (l : List UInt8) (k : Nat) : (({ data := l.toArray } : ByteArray).extract 0 k) = ⟨(l.take k).toArray⟩ := by
  rw [ByteArray.ext_iff]
  simp [ByteArray.data_extract]
theorem ext_post (l : List UInt8) (n : Nat) : ({ data := l.toArray } : ByteArray).extract n l.length = ⟨(l.drop n).toArray⟩ := by
  rw [ByteArray.ext_iff]
  simp [ByteArray.data_extract, List.take_of_length_le]
set_option maxRecDepth 100000 in
set_option maxHeartbeats 4000000 in
theorem swap_any (s p b : List UInt8) (w : World) (hs : s.length ≤ 1000) (hp : p.length ≤ 1000) (hb : b.length ≤ 1000) (hp1 : 1 ≤ p.length) :
    Calls Try.prog 54 #[.string ⟨s.toArray⟩, .string ⟨p.toArray⟩, .string ⟨b.toArray⟩] w fun e w' => e = .returned (.string ⟨(swapS s p b).toArray⟩) ∧ Below w.heap.size w w' := by
  obtain ⟨R, hR⟩ : ∃ R, R = swapS s p b := ⟨_, rfl⟩
  rw [← hR]
  have HR := Lib.hid hR; clear hR
  go_enter Try.func54, Try.ntmps54
  go_wp2_with fail
  go_loopw [7] (fun i wr => ∃ k : Nat, k ≤ s.length ∧ i = .int .i64 k ∧ wr = w ∧ Hid (s.take k ++ swapS (s.drop k) p b = R)) (fun i _ => s.length + 1 - (intOf i).toNat)
  case atStart => exact ⟨0, by omega, rfl, rfl, HR.out.symm⟩
  case round =>
    obtain ⟨k, hk, rfl, rfl, HG⟩ := hrel
    by_cases hlt : (k : Int) + p.length ≤ s.length
    · have hk2 : k < s.length := by omega
      cases hc : ((({ data := s.toArray } : ByteArray).extract k (k + p.length)).toList == p)
      · have hn : Hid (s.take (k + 1) ++ swapS (s.drop (k + 1)) p b = R) := by
          show _ = _
          rw [← swapS_miss s p b k hk2 (by rw [← ext_mid]; exact hc), HG.out]
        go_wp2_with fail
        go_roundw
        case rel => exact ⟨k + 1, by omega, by go_num, trivial, hn⟩
        case measure => simp [intOf]; omega
      · have hn : Hid (s.take k ++ (b ++ s.drop (k + p.length)) = R) := by
          show _ = _
          rw [← swapS_hit s p b k hk2 (by rw [← ext_mid]; exact hc), HG.out]
        have e1 := ext_pre s k
        have e2 := ext_post s (k + p.length)
        have l1 : (s.take k).length ≤ 1000 := by rw [List.length_take]; omega
        have l2 : (s.drop (k + p.length)).length ≤ 1000 := by rw [List.length_drop]; omega
        obtain ⟨t1, ht1⟩ : ∃ t1, t1 = s.take k := ⟨_, rfl⟩
        obtain ⟨t2, ht2⟩ : ∃ t2, t2 = s.drop (k + p.length) := ⟨_, rfl⟩
        rw [← ht1] at hn e1 l1
        rw [← ht2] at hn e2 l2
        clear ht1 ht2
        go_wp2_with fail
        go_quiet (fail)
        go_wp2_with fail
        go_ret
        refine ⟨?_, Below_drewN (Below.refl _ _) _⟩
        rw [← hn.out]
        exact congrArg (fun x => Ending.returned (Value.string x)) (by simp only [← app_data, ByteArray.append_assoc])
    · go_wp2_with fail
      go_ret
      have h := HG.out
      rw [swapS_short _ _ _ (by simp; omega), List.take_append_drop] at h
      exact ⟨by rw [h]; rfl, Below.refl _ _⟩
end Go.Proofs.Ytjkakmmhbciilaa
