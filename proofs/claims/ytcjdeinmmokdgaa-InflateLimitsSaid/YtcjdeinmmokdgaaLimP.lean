/- The law InflateLimits: its own body, where bytes are unpacked. -/
import Derived.Test.YtcjdeinmmokdgaaLimO
namespace Go.Proofs.Ytcjdeinmmokdgaa
set_option linter.unusedSimpArgs false
set_option linter.unusedVariables false
open Go.RowKit
theorem Uf.infl_pos {bs o : List Int} {q : Nat} {lim : Int} (hl : 0 ≤ lim) (h : Uf.infl bs lim = .ok (o, q)) : 0 < q := by
  rcases Nat.eq_zero_or_pos q with rfl | h1
  · have := (Uf.infl_ok hl h).2.2.2 []
    simp at this
    have e : Uf.infl [] lim = .error 2 := Uf.infl_end1 (f := 99999) (by simp)
    rw [e] at this
    cases this
  · exact h1
set_option maxRecDepth 100000 in
set_option maxHeartbeats 16000000 in
theorem ilim_ok (A A2 : Option Addr) (n c m c2 : Nat) (bs more : List Int) (lim : Int) (o : List Int) (q : Nat) (w : World) (h : Ints w A .u8 bs) (hr : ∀ x ∈ bs, 0 ≤ x ∧ x ≤ 255) (hn : bs.length = n) (hnc : n ≤ c) (hc : c ≤ 9223372036854775807) (hA : A = none → n = 0 ∧ c = 0)
    (h' : Ints w A2 .u8 more) (hr' : ∀ x ∈ more, 0 ≤ x ∧ x ≤ 255) (hm : more.length = m) (hA2 : A2 = none → m = 0 ∧ c2 = 0) (hn6 : n ≤ 400) (hm1 : m ≤ 100) (hl0 : 0 ≤ lim) (hl : lim ≤ 3000)
    (HY : ∀ u l2, 0 ≤ l2 → l2 ≤ 4000 → Below w.heap.size w u → Calls Try.prog 8 #[.slice A n c, .int .i64 l2] u (InfU (Uf.infl bs l2) u)) (hk : Uf.infl bs lim = .ok (o, q)) :
    Calls Try.prog 3 #[.slice A n c, .slice A2 m c2, .int .i64 lim] w (Yes w) := by
  have HLV := Lib.hid (fun u => lives15 u)
  obtain ⟨ho, hq, hk1, hkm⟩ := Uf.infl_ok hl0 hk
  have hq0 := Uf.infl_pos hl0 hk
  have H1 := HY w lim hl0 (by omega) (Below.refl _ _)
  rw [hk] at H1
  have H1 := Lib.hid H1
  have H2 := fun u (hb : Below w.heap.size w u) => HY u (lim + 1) (by omega) (by omega) hb
  rw [hk1] at H2
  have H2 := Lib.hid H2
  obtain ⟨N, hN⟩ : ∃ N, N = (q + 7) / 8 := ⟨_, rfl⟩
  have hNn : N ≤ n := by omega
  have hN0 : 0 < N := by omega
  have hall : ∀ x ∈ bs.take N ++ more, 0 ≤ x ∧ x ≤ 255 := fun x hx => by
    rcases List.mem_append.1 hx with hx | hx
    · exact hr x (List.mem_of_mem_take hx)
    · exact hr' x hx
  have H3 := Lib.hid (fun u g cc (hi : Ints u (some ⟨g, 0, none⟩) .u8 (bs.take N ++ more)) (hcc : N + m ≤ cc) => (inflate_slice (some ⟨g, 0, none⟩) (N + m) cc (bs.take N ++ more) lim u hi hall (by rw [List.length_append, List.length_take]; omega) hcc (by omega) hl0 (by omega)).mono fun e w' h => by
    rw [hN, hkm more] at h
    have h := infU_ok h
    rw [← hN] at h
    exact h)
  have HIO : Hid (∀ {w e w'}, InfU (.ok (o, q)) w e w' → InfO o N w e w') := Lib.hid (fun h => by have := infU_ok h; rwa [← hN] at this)
  have HTL : Hid ((bs.take N).length = N) := by show _ = _; rw [List.length_take]; omega
  have HBS := Lib.hid h
  have HMO := Lib.hid h'
  have HMM := Lib.hid hm
  have HA2 := Lib.hid hA2
  have HA1 : Hid (A = none → N = 0 ∧ c = 0) := Lib.hid (fun e => by have := hA e; omega)
  obtain ⟨ol, hol⟩ : ∃ ol, ol = o.length := ⟨_, rfl⟩
  have hol2 : (ol : Int) ≤ lim := by omega
  have HOL : Hid (o.length = ol) := hol.symm
  have d1 : ¬ ((400 : Int) < n) := by omega
  have d2 : ¬ ((100 : Int) < m) := by omega
  have d3 : ¬ (lim < 0) := by omega
  have d4 : ¬ (3000 < lim) := by omega
  have d5 : ¬ (lim < (ol : Int)) := by omega
  have d6 : ¬ ((n : Int) < N) := by omega
  clear h hr hn h' hr' hm hA hA2 HY hk hk1 hkm ho hq hq0 hN hall hol
  go_enter Try.func3, Try.ntmps3
  go_wp2_with (first
    | (at_builtin
       refine wpList_appAny w3 (by rfl) (.tmp 123) (.tmp 124) 22 (by rfl) w2.heap.size 5 (.int .u8 0) 1 Try.underlying22 infoByte rfl _ N ((bs.take N).map (.int .u8)) (by rfl) HO3.out A2 m c2 (more.map (.int .u8)) (by rfl) (by rw [List.length_map]; exact HMM.out) (Cells.below HMO.out HB3.out) HA2.out (fun u hu => by obtain ⟨x, -, rfl⟩ := List.mem_map.1 hu; rfl) (by unfold maxLen; omega) (by omega) HBB3.out.size ?_
       intro v4 w4 ho4 hg4
       have HBB4 : Hid (Below w2.heap.size w2 w4) := Below_own HBB3.out HO3.out hg4 (Nat.le_refl _) HBB3.out.size
       have HB4 := Lib.hid (HB2.out.trans (HBB4.out.mono HB2.out.size))
       obtain ⟨g4, c4, rfl, -⟩ := ho4.form (by omega)
       obtain ⟨ys, hb4, hc4⟩ := own_blk ho4
       have HC4 := Lib.hid hc4
       have HI4 : Hid (Ints w4 (some ⟨g4, 0, none⟩) .u8 (bs.take N ++ more)) := ints_of_blk (ys := ys) (by rw [List.map_append]; exact hb4)
       clear ho4 hg4 hb4 hc4)
    | (at_builtin
       refine wpList_appAny w2 (by rfl) (.tmp 119) (.tmp 122) 22 (by rfl) w2.heap.size 5 (.int .u8 0) 1 Try.underlying22 infoByte rfl (.slice none 0 0) 0 [] (by rfl) (World.ownsRow_nil _ _ _ _) A N c ((bs.take N).map (.int .u8)) (by rfl) (by rw [List.length_map]; exact HTL.out) (ints_take0 (Cells.below HBS.out HB2.out) N) HA1.out (fun u hu => by obtain ⟨x, -, rfl⟩ := List.mem_map.1 hu; rfl) (by unfold maxLen; omega) (by omega) (Nat.le_refl _) ?_
       intro v3 w3 ho3 hg3
       rw [Nat.zero_add, List.nil_append] at ho3
       have HO3 := Lib.hid ho3
       have HBB3 : Hid (Below w2.heap.size w2 w3) := Below_own (Below.refl _ _) (World.ownsRow_nil w2 w2.heap.size 5 1) hg3 (Nat.le_refl _) (Nat.le_refl _)
       have HB3 := Lib.hid (HB2.out.trans (HBB3.out.mono HB2.out.size))
       clear ho3 hg3)
    | (go_at_call 8
       refine (H3.out w4 g4 c4 HI4.out HC4.out).mono ?_
       rintro e w5 ⟨K5, cc5, rfl, hi5, hb5⟩
       rw [HOL.out]
       have HBB5 : Hid (Below w2.heap.size w2 w5) := HBB4.out.trans (hb5.mono HBB4.out.size)
       have HB5 := Lib.hid (HB2.out.trans (HBB5.out.mono HB2.out.size))
       have hcv3 := conv_ints w5 K5 ol cc5 o hi5 HOL.out
       have hcv4 := conv_ints w5 K1 ol cc1 o (Cells.below HI12.out HBB5.out) HOL.out
       clear hi5 hb5)
    | (go_at_call 8
       refine (H2.out w1 HB1.out).mono ?_
       intro e w2 h2
       obtain ⟨K2, cc2, rfl, hi2, hb2⟩ := HIO.out h2
       rw [HOL.out]
       have HB2 := Lib.hid (HB1.out.trans (hb2.mono HB1.out.size))
       have HI12 := Lib.hid (Cells.below HI1.out hb2)
       have hcv1 := conv_ints w2 K2 ol cc2 o hi2 HOL.out
       have hcv2 := conv_ints w2 K1 ol cc1 o HI12.out HOL.out
       clear h2 hi2 hb2)
    | (go_at_call 8
       refine H1.out.mono ?_
       intro e w1 h1
       obtain ⟨K1, cc1, rfl, hi1, hb1⟩ := HIO.out h1
       rw [HOL.out]
       have HI1 := Lib.hid hi1
       have HB1 := Lib.hid hb1
       clear h1 hi1 hb1)
    | (go_at_call 7; refine (HLV.out _).mono ?_; rintro e w7 ⟨rfl, hb7⟩; have HB7 := Lib.hid (HB5.out.trans (hb7.mono HB5.out.size)); clear hb7))
  go_ret
  exact ⟨rfl, HB7.out⟩
theorem ilim_any (A A2 : Option Addr) (n c m c2 : Nat) (bs more : List Int) (lim : Int) (w : World) (h : Ints w A .u8 bs) (hr : ∀ x ∈ bs, 0 ≤ x ∧ x ≤ 255) (hn : bs.length = n) (hnc : n ≤ c) (hc : c ≤ 9223372036854775807) (hA : A = none → n = 0 ∧ c = 0)
    (h' : Ints w A2 .u8 more) (hr' : ∀ x ∈ more, 0 ≤ x ∧ x ≤ 255) (hm : more.length = m) (hA2 : A2 = none → m = 0 ∧ c2 = 0) (hn6 : n ≤ 400) (hm1 : m ≤ 100) (hl0 : 0 ≤ lim) (hl : lim ≤ 3000) :
    Calls Try.prog 3 #[.slice A n c, .slice A2 m c2, .int .i64 lim] w (Yes w) := by
  have HY : ∀ u l2, 0 ≤ l2 → l2 ≤ 4000 → Below w.heap.size w u → Calls Try.prog 8 #[.slice A n c, .int .i64 l2] u (InfU (Uf.infl bs l2) u) := fun u l2 h0 h4 hb => inflate_slice A n c bs l2 u (Cells.below h hb) hr hn hnc (by omega) h0 (by omega)
  cases hk : Uf.infl bs lim with
  | error k => exact ilim_err A A2 n c m c2 bs lim k w hn6 hm1 hl0 hl HY hk
  | ok x => exact ilim_ok A A2 n c m c2 bs more lim x.1 x.2 w h hr hn hnc hc hA h' hr' hm hA2 hn6 hm1 hl0 hl HY hk
end Go.Proofs.Ytcjdeinmmokdgaa
