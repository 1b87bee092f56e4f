/- wave: bits, and the edges that hang on them. -/
import Derived.Test.YtiiipklbbajadaaWavA
namespace Go.Proofs.Ytiiipklbbajadaa
set_option linter.unusedSimpArgs false
set_option linter.unusedVariables false
open Go.RowKit
namespace Wv
theorem u8_and_one (x : Int) (h0 : 0 ≤ x) (h1 : x ≤ 255) : Go.bits .and .u8 x 1 = x % 2 := by
  rw [u8_and x 1 h0 (by omega) (by omega) (by omega)]
  have : x.toNat &&& (1 : Int).toNat = x.toNat % 2 := Nat.and_two_pow_sub_one_eq_mod x.toNat 1
  rw [this]; omega
/-- bit k of bytes, the highest one of each first -/
def bit (D : List Int) (k : Nat) : Int := D.getD (k / 8) 0 / 2 ^ (7 - k % 8) % 2
theorem bit_range (D : List Int) (k : Nat) : 0 ≤ bit D k ∧ bit D k ≤ 1 := by unfold bit; omega
/-- how many bits there are -/
def many (n : Nat) (us : Int) : Int := if n = 0 then 0 else 8 * ((n : Int) - 1) + (if us < 1 ∨ 8 < us then 8 else us)
theorem many_range (n : Nat) (us : Int) : 0 ≤ many n us ∧ many n us ≤ 8 * n := by
  unfold many
  split
  · omega
  · split <;> omega
end Wv
theorem wv_bit (g : Nat) (B : WB) (A : Option Addr) (n c : Nat) (D : List Int) (i : Nat) (u : World) (h : WvAt u g B A n c D) (hi : i < 8 * n) (hn1 : n ≤ 1048576) :
    Calls Try.prog 27 #[.pointer (some ⟨g, 0, none⟩), .int .i64 i] u fun e u' => e = .returned (.bool (Wv.bit D i == 1)) ∧ u = u' := by
  obtain ⟨x, hx⟩ : ∃ x, D[i / 8]? = some x := ⟨_, List.getElem?_eq_getElem (by rw [h.len]; omega)⟩
  obtain ⟨ad, rfl, hc⟩ := h.ints (i / 8) (.int .u8 x) (by simp [hx])
  obtain ⟨x0, x1⟩ := h.byts x (List.mem_of_getElem? hx)
  obtain ⟨s, hs'⟩ : ∃ s, s = 7 - i % 8 := ⟨_, rfl⟩
  have hbit : Wv.bit D i = x / 2 ^ s % 2 := by unfold Wv.bit; rw [hs']; simp [List.getD, hx]
  have hpw : (1 : Int) ≤ 2 ^ s := by have : (1 : Nat) ≤ 2 ^ s := Nat.one_le_two_pow
                                     exact_mod_cast this
  have hd0 : 0 ≤ x / 2 ^ s := Int.ediv_nonneg x0 (by omega)
  have hd1 : x / 2 ^ s ≤ 255 := by
    have := Int.ediv_le_self (2 ^ s) x0
    omega
  have hand := Wv.u8_and_one (x / 2 ^ s) hd0 hd1
  have hdat := h.data
  rw [hbit]
  clear h
  go_enter Try.func27, Try.ntmps27
  go_wp2_with fail
  subst hs'
  go_ret
  exact ⟨by rw [hand]; rfl, rfl⟩
theorem wv_bits (g : Nat) (B : WB) (A : Option Addr) (n c : Nat) (D : List Int) (u : World) (h : WvAt u g B A n c D) (hn1 : n ≤ 1048576) :
    Calls Try.prog 18 #[.pointer (some ⟨g, 0, none⟩)] u fun e u' => e = .returned (.int .i64 (Wv.many n B.us)) ∧ u = u' := by
  have hdat := h.data
  have h9 : u.cell? ⟨g, 9, none⟩ = some (.int .i64 B.us) := h.nums 9 _ (by decide) rfl
  clear h
  by_cases h0 : n = 0
  · subst h0
    have hm : Wv.many 0 B.us = 0 := rfl
    rw [hm]
    go_enter Try.func18, Try.ntmps18
    go_wp2_with fail
    go_ret
    exact ⟨rfl, rfl⟩
  · have hz : ((n : Int) == 0) = false := by simp; omega
    have w1 : IntKind.i64.wrap ((n : Int) - 1) = (n : Int) - 1 := by rw [IntKind.wrap_i64]; omega
    have w2 : IntKind.i64.wrap (8 * ((n : Int) - 1)) = 8 * ((n : Int) - 1) := by rw [IntKind.wrap_i64]; omega
    obtain ⟨us, hus⟩ : ∃ us, us = B.us := ⟨_, rfl⟩
    rw [← hus] at h9 ⊢
    by_cases hu : us < 1 ∨ 8 < us
    · have hm : Wv.many n us = 8 * ((n : Int) - 1) + 8 := by unfold Wv.many; rw [if_neg h0, if_pos hu]
      rw [hm]
      have w3 : IntKind.i64.wrap (8 * ((n : Int) - 1) + 8) = 8 * ((n : Int) - 1) + 8 := by rw [IntKind.wrap_i64]; omega
      have hu2 : us < 1 ∨ ¬ us < 1 ∧ 8 < us := by omega
      clear hm hu hus
      rcases hu2 with hu2 | ⟨hu2, hu3⟩
      all_goals
        go_enter Try.func18, Try.ntmps18
        go_wp2_with fail
        go_ret
        exact ⟨rfl, rfl⟩
    · have hm : Wv.many n us = 8 * ((n : Int) - 1) + us := by unfold Wv.many; rw [if_neg h0, if_neg hu]
      rw [hm]
      have hu2 : ¬ us < 1 := by omega
      have hu3 : ¬ 8 < us := by omega
      have w3 : IntKind.i64.wrap (8 * ((n : Int) - 1) + us) = 8 * ((n : Int) - 1) + us := by rw [IntKind.wrap_i64]; omega
      clear hm hu hus
      go_enter Try.func18, Try.ntmps18
      go_wp2_with fail
      go_ret
      exact ⟨rfl, rfl⟩
theorem wv_pulse (g : Nat) (B : WB) (A : Option Addr) (n c : Nat) (D : List Int) (i : Nat) (u : World) (h : WvAt u g B A n c D) (hi : i < 16 * n) (hn1 : n ≤ 1048576) :
    Calls Try.prog 19 #[.pointer (some ⟨g, 0, none⟩), .int .i64 i] u (EdgeP (if (Wv.bit D (i / 2) == 1) = true then (0, B.on) else (0, B.ze)) u) := by
  have H := Lib.hid (h.below (below_al1 u (.cells #[.int .i64 0, .int .i64 0] 37)))
  have h6 : (u.alloc (.cells #[.int .i64 0, .int .i64 0] 37)).cell? ⟨g, 6, none⟩ = some (.int .i64 B.on) := H.out.nums 6 _ (by decide) rfl
  have h5 : (u.alloc (.cells #[.int .i64 0, .int .i64 0] 37)).cell? ⟨g, 5, none⟩ = some (.int .i64 B.ze) := H.out.nums 5 _ (by decide) rfl
  have HB := wv_bit g B A n c D (i / 2) _ H.out (by omega) hn1
  rw [show ((i / 2 : Nat) : Int) = (i : Int) / 2 by omega] at HB
  replace HB := Lib.hid HB
  clear h
  cases hb : (Wv.bit D (i / 2) == 1)
  all_goals
    rw [hb] at HB
    go_enter Try.func19, Try.ntmps19
    go_wp2_with (first
      | (go_at_call 27; refine HB.out.mono ?_; rintro e w2 ⟨rfl, rfl⟩))
    exact bodyPost_ret (results_cell_row rfl _ _ u.heap.size 37 _ (0, 0) _ rfl (heap_alloc_new _ _) Try.underlying37 rfl infoEdge) rfl ⟨rfl, below_al1 u _⟩
theorem wv_sample (g : Nat) (B : WB) (A : Option Addr) (n c : Nat) (D : List Int) (i : Nat) (u : World) (h : WvAt u g B A n c D) (hi : i < 8 * n) (hn1 : n ≤ 1048576) :
    Calls Try.prog 22 #[.pointer (some ⟨g, 0, none⟩), .int .i64 i] u (EdgeP (if (Wv.bit D i == 1) = true then (3, B.ra) else (2, B.ra)) u) := by
  have H := Lib.hid (h.below (below_al1 u (.cells #[.int .i64 0, .int .i64 0] 37)))
  have h10 : (u.alloc (.cells #[.int .i64 0, .int .i64 0] 37)).cell? ⟨g, 10, none⟩ = some (.int .i64 B.ra) := H.out.nums 10 _ (by decide) rfl
  have HB := Lib.hid (wv_bit g B A n c D i _ H.out (by omega) hn1)
  clear h
  cases hb : (Wv.bit D i == 1)
  all_goals
    rw [hb] at HB
    go_enter Try.func22, Try.ntmps22
    go_wp2_with (first
      | (go_at_call 27; refine HB.out.mono ?_; rintro e w2 ⟨rfl, rfl⟩))
    exact bodyPost_ret (results_cell_row rfl _ _ u.heap.size 37 _ (0, 0) _ rfl (heap_alloc_new _ _) Try.underlying37 rfl infoEdge) rfl ⟨rfl, below_al1 u _⟩
end Go.Proofs.Ytiiipklbbajadaa
