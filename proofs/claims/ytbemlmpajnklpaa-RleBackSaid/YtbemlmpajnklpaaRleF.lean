/- The laws of stage 21: lives; RleTimes. -/
import Derived.Test.YtbemlmpajnklpaaRleE
namespace Go.Proofs.Ytbemlmpajnklpaa
set_option linter.unusedSimpArgs false
set_option linter.unusedVariables false
open Go.RowKit
def Yes (w : World) (e : Ending) (w' : World) : Prop := e = .returned (.bool true) ∧ Below w.heap.size w w'
theorem runs_plain (A : Addr) (n c m : Nat) (l : List Int) (w : World) (hl : Ints w (some A) .u8 (Rl.spell l)) (hn : (Rl.spell l).length = n) (hc : n ≤ c) (hm : l.length = m) (hm1 : m ≤ 1000) (hn1 : n ≤ 5000) (hmay : Rl.May l) (hA : A.block < w.heap.size) :
    Calls Try.prog 10 #[.int .i64 1, .slice (some A) n c] w (ListP l w) := by
  have HC := Lib.hid (plain_spelled A n c m l w hl hn hc hm hm1 hn1 hmay hA)
  clear hl hn hm hmay
  go_enter Try.func10, Try.ntmps10
  go_wp2_with (first
    | (go_at_call 15; refine (HC.out).mono ?_; rintro e w2 ⟨B, c2, rfl, h1, h2, h3⟩; have H1 := Lib.hid h1; have H2 := Lib.hid h2; have H3 := Lib.hid h3; clear h1 h2 h3))
  go_ret2
  exact ⟨B, c2, rfl, H1.out, H2.out, H3.out⟩
theorem two_cells {w : World} {B : Option Addr} {x y : Int} (h : Cells w B ([x, y].map (.int .i64 ·))) : ∃ ad, B = some ad ∧ w.cell? ad = some (.int .i64 x) ∧ w.cell? ⟨ad.block, ad.off + 1, none⟩ = some (.int .i64 y) := by
  obtain ⟨ad, e, h0⟩ := h 0 (.int .i64 x) rfl
  obtain ⟨ad', e', h1⟩ := h 1 (.int .i64 y) rfl
  subst e
  injection e' with e'
  subst e'
  exact ⟨_, rfl, by simpa [Addr.add] using h0, by simpa [Addr.add] using h1⟩
set_option maxHeartbeats 1000000 in
theorem lives21 (w : World) : Calls Try.prog 5 #[] w (Yes w) := by
  obtain ⟨w1, hw1⟩ : ∃ w1, w1 = w.alloc (.cells #[.int .u8 5, .int .u8 0, .int .u8 0, .int .u8 1, .int .u8 0, .int .u8 0] 5) := ⟨_, rfl⟩
  have hs1 : w1.heap.size = w.heap.size + 1 := by rw [hw1]; simp
  have hB : Below w.heap.size w w1 := by rw [hw1]; exact (Below.refl _ w).alloc (Nat.le_refl _) _
  have hI : Ints w1 (some ⟨w.heap.size, 0, none⟩) .u8 (Rl.spell [5, 256]) := by
    have hb : Blk w1 w.heap.size 5 [.int .u8 5, .int .u8 0, .int .u8 0, .int .u8 1, .int .u8 0, .int .u8 0] := by rw [hw1]; exact Blk.new w _ _
    intro i v hi
    have e : (Rl.spell [5, 256]).map (Value.int .u8) = [.int .u8 5, .int .u8 0, .int .u8 0, .int .u8 1, .int .u8 0, .int .u8 0] := rfl
    rw [e] at hi
    refine ⟨_, rfl, ?_⟩
    rw [← hi]
    have := hb.cell i
    by_cases h0 : i = 0
    · subst h0; exact this
    · simpa [Addr.add, h0] using this
  have HC := Lib.hid (runs_plain ⟨w.heap.size, 0, none⟩ 6 6 2 [5, 256] w1 hI rfl (by decide) rfl (by decide) (by decide) (by intro x hx; simp at hx; omega) (by simp [hs1]))
  have HB := Lib.hid hB
  clear hI hB hs1
  subst hw1
  go_enter Try.func5, Try.ntmps5
  go_wp2_with (first
    | (go_at_call 10; refine (HC.out).mono ?_; rintro e w2 ⟨B, c2, rfl, h1, h2, h3⟩; obtain ⟨ad, rfl, q0, q1⟩ := two_cells (w := w2) (B := B) (x := 5) (y := 256) h2; have HB3 := Lib.hid (HB.out.trans (h3.mono HB.out.size)); clear h1 h2 h3))
  go_ret
  exact ⟨rfl, HB3.out⟩
set_option maxHeartbeats 4000000 in
theorem rleTimes_any (A : Option Addr) (n c : Nat) (l : List Int) (rate : Int) (w : World) (hl : Ints w A .i64 l) (hn : l.length = n) :
    Calls Try.prog 3 #[.slice A n c, .int .i64 rate] w (Yes w) := by
  have HLV := Lib.hid lives21
  by_cases k1 : (1000 : Int) < n
  · clear hl hn
    go_enter Try.func3, Try.ntmps3
    go_wp2_with (first
      | (go_at_call 5; refine (HLV.out _).mono ?_; rintro e w3 ⟨rfl, hb3⟩))
    go_ret
    exact ⟨rfl, hb3⟩
  have hn1 : n ≤ 1000 := by omega
  have HSN := Lib.hid (fun u => same_any none none 0 0 0 [] u (fun i v hi => by simp at hi) (fun i v hi => by simp at hi) rfl (by omega))
  by_cases hr : rate < 1 ∨ 16777215 < rate
  · have H1 := Lib.hid (times_rate A n c rate w hr)
    have H2 := Lib.hid (fun u => refTimes_rate A n c rate u hr)
    clear hl hn hr
    go_enter Try.func3, Try.ntmps3
    go_wp2_with (first
      | (go_at_call 6; refine (H1.out).mono ?_; rintro e w2 ⟨rfl, hb2⟩)
      | (go_at_call 7; refine (H2.out _).mono ?_; rintro e w3 ⟨rfl, hb3⟩)
      | (go_at_call 8; refine (HSN.out _).mono ?_; rintro e w4 ⟨rfl, q, rfl⟩)
      | (go_at_call 5; refine (HLV.out _).mono ?_; rintro e w5 ⟨rfl, hb5⟩))
    go_ret
    exact ⟨rfl, (Below_drewN (hb2.trans (hb3.mono hb2.size)) q).trans (hb5.mono (hb2.trans (hb3.mono hb2.size)).size)⟩
  have hr1 : 1 ≤ rate := by omega
  have hr2 : rate ≤ 16777215 := by omega
  clear hr
  by_cases hs : Rl.scan 274877906944 l = true
  · have H1 := Lib.hid (times_bad A n c rate l w hl hn hn1 hr1 hr2 hs)
    have H2 := Lib.hid (fun u (h : Below w.heap.size w u) => by
      have := refTimes_ok A n c rate l u (hl.below h) hn hn1 hr1 hr2
      unfold TimesP at this
      simp only [if_pos hs] at this
      exact this)
    clear hl hn hs
    go_enter Try.func3, Try.ntmps3
    go_wp2_with (first
      | (go_at_call 6; refine (H1.out).mono ?_; rintro e w2 ⟨rfl, hb2⟩)
      | (go_at_call 7; refine (H2.out _ hb2).mono ?_; rintro e w3 ⟨rfl, hb3⟩)
      | (go_at_call 8; refine (HSN.out _).mono ?_; rintro e w4 ⟨rfl, q, rfl⟩)
      | (go_at_call 5; refine (HLV.out _).mono ?_; rintro e w5 ⟨rfl, hb5⟩))
    go_ret
    exact ⟨rfl, (Below_drewN (hb2.trans (hb3.mono hb2.size)) q).trans (hb5.mono (hb2.trans (hb3.mono hb2.size)).size)⟩
  · have hs2 : Rl.scan 274877906944 l = false := by simpa using hs
    have H1 := Lib.hid (times_ok A n c rate l w hl hn hn1 hr1 hr2 hs2)
    have H2 := Lib.hid (fun u (h : Below w.heap.size w u) => by
      have := refTimes_ok A n c rate l u (hl.below h) hn hn1 hr1 hr2
      unfold TimesP at this
      simp only [if_neg hs] at this
      exact this)
    obtain ⟨R, hR⟩ : ∃ R, R = Rl.steps rate 0 0 l := ⟨_, rfl⟩
    rw [← hR] at H1 H2
    have hRL : R.length = n := by rw [hR, Rl.steps_len]; exact hn
    have H1 : Hid (Calls Try.prog 6 #[.slice A n c, .int .i64 rate] w fun e w' => ∃ (B : Option Addr) (c : Nat), e = .returned (.tuple #[.slice B n c, .int .i64 0]) ∧ Cells w' B (R.map (.int .i64 ·)) ∧ Below w.heap.size w w') :=
      H1.out.mono fun e w' ⟨B, c, h1, h2, h3, h4⟩ => ⟨B, c, by rw [← hRL]; exact h1, h3, h4⟩
    have H2 : Hid (∀ u, Below w.heap.size w u → Calls Try.prog 7 #[.slice A n c, .int .i64 rate] u fun e w' => ∃ (B : Option Addr) (c : Nat), e = .returned (.tuple #[.slice B n c, .int .i64 0]) ∧ Cells w' B (R.map (.int .i64 ·)) ∧ Below u.heap.size u w') :=
      fun u hu => (H2.out u hu).mono fun e w' ⟨B, c, h1, h2, h3, h4⟩ => ⟨B, c, by rw [← hRL]; exact h1, h3, h4⟩
    have HRL := Lib.hid hRL
    clear hl hn hs hs2 hR hRL
    go_enter Try.func3, Try.ntmps3
    go_wp2_with (first
      | (go_at_call 6; refine (H1.out).mono ?_; rintro e w2 ⟨B1, c1, rfl, hc1, hb2⟩; have HC1 := Lib.hid hc1; have HB2 := Lib.hid hb2; clear hc1 hb2)
      | (go_at_call 7; refine (H2.out _ HB2.out).mono ?_; rintro e w3 ⟨B2, c2, rfl, hc2, hb3⟩; have HC2 := Lib.hid hc2; have HB3 := Lib.hid hb3; clear hc2 hb3)
      | (go_at_call 8; refine (same_any B1 B2 n c1 c2 R w3 (HC1.out.below HB3.out) HC2.out HRL.out hn1).mono ?_; rintro e w4 ⟨rfl, q, rfl⟩)
      | (go_at_call 5; refine (HLV.out _).mono ?_; rintro e w5 ⟨rfl, hb5⟩))
    go_ret
    have hb23 := HB2.out.trans (HB3.out.mono HB2.out.size)
    exact ⟨rfl, (Below_drewN hb23 q).trans (hb5.mono hb23.size)⟩
end Go.Proofs.Ytbemlmpajnklpaa
