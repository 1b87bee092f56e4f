/- inflate.Inflate of any slice; the law InflateLimits: its own body. -/
import Derived.Test.YtcjdeinmmokdgaaLimN
import Derived.Test.YtcjdeinmmokdgaaInfV
import Derived.LoopN
namespace Go.Proofs.Ytcjdeinmmokdgaa
set_option linter.unusedSimpArgs false
set_option linter.unusedVariables false
open Go.RowKit
theorem utake_nil (U r : Nat) (A : Option Addr) (c : Nat) (v : Value) (lim : Int) (w : World) (hblk : Blk w U 36 [.pointer (some ⟨r, 0, none⟩), v, .int .i64 lim]) (hb : BitsAt w r A c [] 0) :
    Calls Try.prog 14 #[.pointer (some ⟨U, 0, none⟩), .int .i64 1] w (TakeE r w) := by
  have HT : Hid (Calls Try.prog 20 #[.pointer (some ⟨r, 0, none⟩), .int .i64 (1 : Nat)] w fun e w' => e = .returned (.tuple #[.int .i64 0, .bool false]) ∧ w.grownBy w' (some r)) := Lib.hid ((take_any r A c [] 0 1 w hb (by omega)).mono fun e w' ⟨h1, h2⟩ => by
    rw [if_neg (by simp)] at h2
    exact ⟨h2.1, h1⟩)
  have u0 : w.cell? ⟨U, 0, none⟩ = some (.pointer (some ⟨r, 0, none⟩)) := hblk.cell 0
  clear hblk hb
  go_enter Try.func14, Try.ntmps14
  go_wp2_with (first
    | (go_at_call 20; refine HT.out.mono ?_; rintro e w2 ⟨rfl, hg2⟩; have HG2 := Lib.hid hg2; clear hg2))
  go_ret2
  exact ⟨rfl, HG2.out⟩
set_option maxRecDepth 100000 in
set_option maxHeartbeats 16000000 in
theorem inflate_nil (A : Option Addr) (c : Nat) (lim : Int) (w : World) (hl0 : 0 ≤ lim) (hl : lim ≤ 1048576) :
    Calls Try.prog 8 #[.slice A 0 c, .int .i64 lim] w (InfU (Uf.infl [] lim) w) := by
  have hR : Uf.infl [] lim = .error 2 := Uf.infl_end1 (f := 99999) (by simp)
  rw [hR]
  have HRD := Lib.hid (read_any A 0 c [] w (fun i v hi => by simp at hi) (fun x hx => by cases hx) rfl (by omega) (by omega))
  have hl1 : ¬ (lim < 0) := by omega
  clear hR
  go_enter Try.func8, Try.ntmps8
  go_wp2_with (first
    | (go_at_call 13; refine HRD.out.mono ?_; rintro e w1 ⟨rfl, hb1, hg1⟩; have HB1 := Lib.hid hb1; have HG1 := Lib.hid hg1; clear hb1 hg1))
  have HBE : Hid (Below w.heap.size w (w1.alloc (.cells #[.pointer (some ⟨w.heap.size, 0, none⟩), .slice none 0 0, .int .i64 lim] 36))) := HG1.out.alloc HG1.out.size _
  have HT := Lib.hid (utake_nil w1.heap.size w.heap.size A c (.slice none 0 0) lim (w1.alloc (.cells #[.pointer (some ⟨w.heap.size, 0, none⟩), .slice none 0 0, .int .i64 lim] 36)) (Blk.new w1 _ [_, _, _]) (HB1.out.below ((Below.refl _ w1).alloc (Nat.le_refl _) _)))
  refine wp_loop_rounds 1 ?_
  rw [rounds_succ]
  go_wp2_with (first
    | (go_at_call 14; refine HT.out.mono ?_; rintro e w2 ⟨rfl, hg2⟩; have HG2 := Lib.hid hg2; clear hg2))
  go_ret3
  refine ⟨⟨HG2.out.os.trans HBE.out.os, HG2.out.tape.trans HBE.out.tape, HG2.out.output.trans HBE.out.output, Nat.le_trans HBE.out.size HG2.out.size, fun k hk => (HG2.out.block k (Nat.lt_of_lt_of_le hk HBE.out.size) (by intro e; injection e with e; omega)).trans (HBE.out.block k hk)⟩, rfl, by decide⟩
/-- any slice -/
theorem inflate_slice (A : Option Addr) (n c : Nat) (bs : List Int) (lim : Int) (w : World) (h : Ints w A .u8 bs) (hr : ∀ x ∈ bs, 0 ≤ x ∧ x ≤ 255) (hn : bs.length = n) (hc : n ≤ c) (hm : n ≤ 2000) (hl0 : 0 ≤ lim) (hl : lim ≤ 1048576) :
    Calls Try.prog 8 #[.slice A n c, .int .i64 lim] w (InfU (Uf.infl bs lim) w) := by
  by_cases h0 : bs = []
  · subst h0
    subst hn
    exact inflate_nil A c lim w hl0 hl
  · obtain ⟨x, l, rfl⟩ : ∃ x l, bs = x :: l := by
      cases bs with
      | nil => exact absurd rfl h0
      | cons x l => exact ⟨x, l, rfl⟩
    refine inflate_all A n c _ lim w h hr hn hc hm (fun ad e => ?_) hl0 hl
    obtain ⟨ad2, e2, hc2⟩ := h 0 (.int .u8 x) rfl
    rw [e] at e2
    injection e2 with e2
    subst e2
    have := block_lt_of_cell hc2
    rw [block_of_add] at this
    exact this
theorem infU_ok {out : List Int} {q : Nat} {w : World} {e : Ending} {w' : World} (h : InfU (.ok (out, q)) w e w') : InfO out ((q + 7) / 8) w e w' := by
  obtain ⟨hb, v, he, ho⟩ := h
  obtain ⟨K, c, rfl, hc, -⟩ := own_slice3 ho
  exact ⟨K, c, he, hc, hb⟩
theorem infU_err {k : Int} {w : World} {e : Ending} {w' : World} (h : InfU (.error k) w e w') : InfE k w e w' := ⟨h.2.1, h.1⟩
theorem ilim_out (A A2 : Option Addr) (n c m c2 : Nat) (lim : Int) (w : World) (h : 400 < n ∨ 100 < m ∨ lim < 0 ∨ 3000 < lim) : Calls Try.prog 3 #[.slice A n c, .slice A2 m c2, .int .i64 lim] w (Yes w) := by
  have HL := Lib.hid (fun u => lives15 u)
  rcases (show (400 : Int) < n ∨ (¬ (400 : Int) < n ∧ (100 : Int) < m) ∨ (¬ (400 : Int) < n ∧ ¬ (100 : Int) < m ∧ lim < 0) ∨ (¬ (400 : Int) < n ∧ ¬ (100 : Int) < m ∧ ¬ lim < 0 ∧ 3000 < lim) by omega) with d1 | ⟨d1, d2⟩ | ⟨d1, d2, d3⟩ | ⟨d1, d2, d3, d4⟩
  all_goals
    clear h
    go_enter Try.func3, Try.ntmps3
    go_wp2_with (first
      | (go_at_call 7; refine (HL.out _).mono ?_; rintro e w1 ⟨rfl, hb1⟩; have HB1 := Lib.hid hb1; clear hb1))
    go_ret
    exact ⟨rfl, HB1.out⟩
set_option maxRecDepth 100000 in
set_option maxHeartbeats 8000000 in
theorem ilim_err (A A2 : Option Addr) (n c m c2 : Nat) (bs : List Int) (lim : Int) (k : Int) (w : World) (hn6 : n ≤ 400) (hm1 : m ≤ 100) (hl0 : 0 ≤ lim) (hl : lim ≤ 3000)
    (HY : ∀ u l2, 0 ≤ l2 → l2 ≤ 4000 → Below w.heap.size w u → Calls Try.prog 8 #[.slice A n c, .int .i64 l2] u (InfU (Uf.infl bs l2) u)) (hk : Uf.infl bs lim = .error k) :
    Calls Try.prog 3 #[.slice A n c, .slice A2 m c2, .int .i64 lim] w (Yes w) := by
  have HLV := Lib.hid (fun u => lives15 u)
  obtain ⟨hk3, hkn⟩ := Uf.infl_err hk
  have H1 := HY w lim hl0 (by omega) (Below.refl _ _)
  rw [hk] at H1
  have H1 := Lib.hid H1
  have H2 := fun u (hb : Below w.heap.size w u) => HY u (lim + 1) (by omega) (by omega) hb
  have d1 : ¬ ((400 : Int) < n) := by omega
  have d2 : ¬ ((100 : Int) < m) := by omega
  have d3 : ¬ (lim < 0) := by omega
  have d4 : ¬ (3000 < lim) := by omega
  by_cases hk8 : k = 8
  · subst hk8
    have H2 := Lib.hid H2
    have HX : Hid (∀ u e w', InfU (Uf.infl bs (lim + 1)) u e w' → ∃ K n2 c2 i f, e = .returned (.tuple #[.slice K n2 c2, .int .i64 i, .int .i64 f]) ∧ Below u.heap.size u w') := Lib.hid (fun u e w' h => by
      cases hR : Uf.infl bs (lim + 1) with
      | error k => rw [hR] at h; exact ⟨_, _, _, _, _, h.2.1, h.1⟩
      | ok x => rw [hR] at h; obtain ⟨K, c3, he, -, hb⟩ := infU_ok h; exact ⟨_, _, _, _, _, he, hb⟩)
    clear hk hkn HY hk3
    go_enter Try.func3, Try.ntmps3
    go_wp2_with (first
      | (go_at_call 8
         refine (H2.out w1 HB1.out).mono ?_
         intro e w2 h2
         obtain ⟨K2, n2, cc2, i2, f2, rfl, hb2⟩ := HX.out _ _ _ h2
         have HB2 := Lib.hid (HB1.out.trans (hb2.mono HB1.out.size))
         clear h2 hb2)
      | (go_at_call 8
         refine H1.out.mono ?_
         intro e w1 h1
         obtain ⟨rfl, hb1⟩ := infU_err h1
         have HB1 := Lib.hid hb1
         clear h1 hb1)
      | (go_at_call 7; refine (HLV.out _).mono ?_; rintro e w7 ⟨rfl, hb7⟩; have HB7 := Lib.hid (HB2.out.trans (hb7.mono HB2.out.size)); clear hb7))
    go_ret
    exact ⟨rfl, HB7.out⟩
  · rw [hkn hk8] at H2
    have H2 := Lib.hid H2
    have hk24 : k = 2 ∨ k = 4 := by omega
    clear hk hkn HY hk3
    rcases hk24 with rfl | rfl
    all_goals
      go_enter Try.func3, Try.ntmps3
      go_wp2_with (first
        | (go_at_call 8
           refine (H2.out w1 HB1.out).mono ?_
           intro e w2 h2
           obtain ⟨rfl, hb2⟩ := infU_err h2
           have HB2 := Lib.hid (HB1.out.trans (hb2.mono HB1.out.size))
           clear h2 hb2)
        | (go_at_call 8
           refine H1.out.mono ?_
           intro e w1 h1
           obtain ⟨rfl, hb1⟩ := infU_err h1
           have HB1 := Lib.hid hb1
           clear h1 hb1)
        | (go_at_call 7; refine (HLV.out _).mono ?_; rintro e w7 ⟨rfl, hb7⟩; have HB7 := Lib.hid (HB2.out.trans (hb7.mono HB2.out.size)); clear hb7))
      go_ret
      exact ⟨rfl, HB7.out⟩
end Go.Proofs.Ytcjdeinmmokdgaa
