/- The law ZlibBack: its own body. -/
import Derived.Test.YtcjdeinmmokdgaaZlbF
import Derived.Deep.DeepCutAuto
namespace Go.Proofs.Ytcjdeinmmokdgaa
set_option linter.unusedSimpArgs false
set_option linter.unusedVariables false
open Go.RowKit
theorem back_long (A A2 : Option Addr) (n c m c2 : Nat) (x0 x1 : Int) (w : World) (h : 60000 < n ∨ 1000 < m) : Calls Try.prog 5 #[.slice A n c, .slice A2 m c2, .agg #[.int .i64 x0, .int .i64 x1]] w (Yes w) := by
  have HL := Lib.hid (fun u => lives16 u)
  have hb := (Below.refl w.heap.size w).alloc (Nat.le_refl _) (.cells #[.int .i64 x0, .int .i64 x1] 29)
  have HB := Lib.hid hb
  clear hb
  by_cases h1 : 60000 < n
  · have h2 : (60000 : Int) < n := by omega
    clear h
    go_enter Try.func5, Try.ntmps5
    go_wp2_with (first
      | (go_at_call 10; refine (HL.out _).mono ?_; rintro e w1 ⟨rfl, hb1⟩; have HB1 := Lib.hid (HB.out.trans (hb1.mono HB.out.size)); clear hb1))
    go_ret
    exact ⟨rfl, HB1.out⟩
  · have h2 : ¬ ((60000 : Int) < n) := by omega
    have h4 : decide ((60000 : Int) < n) = false := by simpa using h2
    have h3 : (1000 : Int) < m := by omega
    clear h
    go_enter Try.func5, Try.ntmps5
    go_wp2_with (first
      | (go_at_call 10; refine (HL.out _).mono ?_; rintro e w1 ⟨rfl, hb1⟩; have HB1 := Lib.hid (HB.out.trans (hb1.mono HB.out.size)); clear hb1))
    go_ret
    exact ⟨rfl, HB1.out⟩
set_option maxRecDepth 100000 in
set_option maxHeartbeats 8000000 in
theorem back_any (A A2 : Option Addr) (n c m c2 : Nat) (bs more : List Int) (x0 x1 : Int) (w : World) (h : Ints w A .u8 bs) (hr : ∀ x ∈ bs, 0 ≤ x ∧ x ≤ 255) (hn : bs.length = n) (hnc : n ≤ c) (hc : c ≤ 9223372036854775807) (hA : A = none → n = 0 ∧ c = 0)
    (h' : Ints w A2 .u8 more) (hr' : ∀ x ∈ more, 0 ≤ x ∧ x ≤ 255) (hm : more.length = m) (hA2 : A2 = none → m = 0 ∧ c2 = 0) (hn6 : n ≤ 60000) (hm1 : m ≤ 1000) :
    Calls Try.prog 5 #[.slice A n c, .slice A2 m c2, .agg #[.int .i64 x0, .int .i64 x1]] w (Yes w) := by
  have HLV := Lib.hid (fun u => lives16 u)
  have HBS := Lib.hid h
  have HMO := Lib.hid h'
  have HP := Lib.hid (fun u (hu : Below w.heap.size w u) => pack_any A n c bs u (Cells.below h hu) hr hn hnc hc (by omega) hA)
  obtain ⟨N, hN⟩ : ∃ N, N = n + 11 := ⟨_, rfl⟩
  obtain ⟨S, hS⟩ : ∃ S, S = Ad.of bs := ⟨_, rfl⟩
  have hS0 := Ad.of_range bs
  rw [← hS] at hS0
  have HPL : Hid ((Zl.pack bs).length = N) := by show _ = _; rw [Zl.pack_length]; omega
  have HPF : Hid (Zl.pack bs = 120 :: 1 :: Zl.form bs S) := by show _ = _; rw [hS]; exact Zl.pack_form bs
  obtain ⟨F, hF⟩ : ∃ F, F = 120 :: 1 :: Zl.form bs S := ⟨_, rfl⟩
  have HF := Lib.hid hF
  have HFL : Hid (F.length = N) := by show _ = _; rw [hF]; simp [Zl.form_length]; omega
  have HNN := Lib.hid hn
  have HMM := Lib.hid hm
  have HA2 := Lib.hid hA2
  have HY := Lib.hid (fun u g cc (hi : Ints u (some ⟨g, 0, none⟩) .u8 (F ++ more)) (hcc : N + m ≤ cc) (hg : g < u.heap.size) => heads_yes g (N + m) cc 120 1 bs more u (by rw [Zl.pack_form, ← hS]; rw [hF] at hi; exact hi) hr hr' (by omega) (by omega) (by omega) (by omega) (by omega) (by omega) (by omega) hcc hg n (by omega) (by omega) Zl.fits_usual)
  rw [show bs.length + 11 = N by omega] at HY
  have HC := Lib.hid (fun u g k cc (hi : Ints u (some ⟨g, 0, none⟩) .u8 F) (hk : k < N) (hcc : N ≤ cc) (hg : g < u.heap.size) => unpack_cut g k cc bs u (by rw [← hS, ← hF]; exact hi) hr (by omega) (by omega) (by omega) hg)
  rw [hn] at HC
  have HRB := Lib.hid hr
  have HRM := Lib.hid hr'
  have HSS := Lib.hid hS
  have HS0 := Lib.hid hS0
  have h60 : ¬ ((60000 : Int) < n) := by omega
  have h10 : ¬ ((1000 : Int) < m) := by omega
  have hNn : ((N : Int) != n + 11) = false := by
    have : (N : Int) = n + 11 := by omega
    simpa using this
  have hN1 : n + 11 ≤ N := by omega
  have hN3 : N ≤ n + 11 := by omega
  have hN2 : N ≤ 60011 := by omega
  clear h hr hn h' hr' hm hA hA2 hN hF hS hS0
  go_enter Try.func5, Try.ntmps5
  go_upto_region 11 with (first
    | (go_at_call 12
       refine (HY.out w3 g3 c3 HI3.out HC3.out HBK3.out.lt).mono ?_
       rintro e w4 ⟨K4, c4, rfl, hi4, hb4⟩
       rw [HNN.out]
       have HBB4 : Hid (Below w1.heap.size w1 w4) := HBB3.out.trans (hb4.mono HBB3.out.size)
       have HB4 := Lib.hid (HB1.out.trans (HBB4.out.mono HB1.out.size))
       have hcv1 := conv_ints w4 K4 n c4 bs hi4 HNN.out
       have hcv2 := conv_ints w4 A n c bs (Cells.below HBS.out HB4.out) HNN.out
       have HBK4 := Lib.hid (HBK3.out.below_ hb4)
       have HBA4 := Lib.hid (HBA.out.below_ HBB4.out)
       have q0 : w4.cell? ⟨w.heap.size, 0, none⟩ = some (.int .i64 x0) := HBA4.out.cell 0
       have q1 : w4.cell? ⟨w.heap.size, 1, none⟩ = some (.int .i64 x1) := HBA4.out.cell 1
       have HI4 := Lib.hid (Cells.below HI1.out HBB4.out)
       clear hi4 hb4)
    | (at_builtin
       refine wpList_appAny w2 (by rfl) (.tmp 39) (.tmp 40) 22 (by rfl) w1.heap.size 5 (.int .u8 0) 1 Try.underlying22 infoByte rfl _ N (F.map (.int .u8)) (by rfl) HO2.out A2 m c2 (more.map (.int .u8)) (by rfl) (by rw [List.length_map]; exact HMM.out) (Cells.below HMO.out HB2.out) HA2.out (fun u hu => by obtain ⟨x, -, rfl⟩ := List.mem_map.1 hu; rfl) (by unfold maxLen; omega) (by omega) HBB2.out.size ?_
       intro v3 w3 ho3 hg3
       have HBB3 : Hid (Below w1.heap.size w1 w3) := Below_own HBB2.out HO2.out hg3 (Nat.le_refl _) HBB2.out.size
       obtain ⟨g3, c3, rfl, -⟩ := ho3.form (by omega)
       obtain ⟨ys, hb3, hc3⟩ := own_blk ho3
       have HBK3 := Lib.hid hb3
       have HC3 := Lib.hid hc3
       have HG3 : Hid (w1.heap.size ≤ g3) := (ho3.lt g3 rfl).1
       have HI3 : Hid (Ints w3 (some ⟨g3, 0, none⟩) .u8 (F ++ more)) := ints_of_blk (ys := ys) (by rw [List.map_append]; exact hb3)
       clear ho3 hg3 hb3 hc3)
    | (at_builtin
       refine wpList_appAny w1 (by rfl) (.tmp 37) (.tmp 38) 22 (by rfl) w1.heap.size 5 (.int .u8 0) 1 Try.underlying22 infoByte rfl (.slice none 0 0) 0 [] (by rfl) (World.ownsRow_nil _ _ _ _) (some ⟨g, 0, none⟩) N c1 (F.map (.int .u8)) (by rfl) (by rw [List.length_map]; exact HFL.out) HI1.out (fun h => by cases h) (fun u hu => by obtain ⟨x, -, rfl⟩ := List.mem_map.1 hu; rfl) (by unfold maxLen; omega) (by omega) (Nat.le_refl _) ?_
       intro v2 w2 ho2 hg2
       rw [Nat.zero_add, List.nil_append] at ho2
       have HO2 := Lib.hid ho2
       have HBB2 : Hid (Below w1.heap.size w1 w2) := Below_own (Below.refl _ _) (World.ownsRow_nil w1 w1.heap.size 5 1) hg2 (Nat.le_refl _) (Nat.le_refl _)
       have HB2 := Lib.hid (HB1.out.trans (HBB2.out.mono HB1.out.size))
       clear ho2 hg2)
    | (go_at_call 11
       refine (HP.out _ ((Below.refl _ w).alloc (Nat.le_refl _) _)).mono ?_
       rintro e w1 ⟨g, c1, rfl, ho1, hb1⟩
       obtain ⟨ys, hblk, hcc⟩ := own_blk ho1
       rw [HPL.out] at hcc ⊢
       have hi1 := ints_of_blk hblk
       rw [HPF.out, ← HF.out] at hi1
       have HI1 := Lib.hid hi1
       have HCC := Lib.hid hcc
       have HGL : Hid (g < w1.heap.size) := (ho1.lt g rfl).2
       have HBA : Hid (Blk w1 w.heap.size 29 [.int .i64 x0, .int .i64 x1]) := (Blk.new w _ [_, _]).below_ hb1
       have HB1 : Hid (Below w.heap.size w w1) := ((Below.refl _ w).alloc (Nat.le_refl _) _).trans (hb1.mono (by simp))
       clear ho1 hblk hcc hi1 hb1))
  go_cut [12] (fun v wx => ∃ k : Nat, v = .int .i64 (k : Nat) ∧ k < N ∧ w4 = wx)
  case first =>
    go_wp2
    all_goals
      go_meet
      first
        | exact ⟨x0.toNat, by rw [Int.toNat_of_nonneg (by omega)], by omega, rfl⟩
        | exact ⟨0, rfl, by omega, rfl⟩
        | exact ⟨N - 1, by rw [show ((N - 1 : Nat) : Int) = (N : Int) - 1 by omega], by omega, rfl⟩
  case rest =>
    obtain ⟨k, rfl, hk, rfl⟩ := hcut
    have hkc : k ≤ c1 := by have := HCC.out; omega
    have HU := Lib.hid (HC.out w4 g k c1 HI4.out hk HCC.out (by have := HGL.out; have := HBB4.out.size; omega))
    clear hk
    by_cases hn0 : 0 < n
    · go_upto_region 16 with (first
        | (go_at_call 12
           refine HU.out.mono ?_
           rintro e w5 ⟨rfl, hb5⟩
           have HB5 := Lib.hid (HB4.out.trans (hb5.mono HB4.out.size))
           have HBK5 := Lib.hid (HBK4.out.below_ hb5)
           have q15 : w5.cell? ⟨w.heap.size, 1, none⟩ = some (.int .i64 x1) := (HBA4.out.below_ hb5).cell 1
           clear hb5))
      go_cut [16] (fun v wx => ∃ j : Nat, v = .int .i64 (j : Nat) ∧ j < n ∧ w5 = wx)
      case first =>
        go_wp2
        all_goals
          go_meet
          first
            | exact ⟨x1.toNat, by rw [Int.toNat_of_nonneg (by omega)], by omega, rfl⟩
            | exact ⟨0, rfl, by omega, rfl⟩
            | exact ⟨n - 1, by rw [show ((n - 1 : Nat) : Int) = (n : Int) - 1 by omega], by omega, rfl⟩
      case rest =>
        obtain ⟨j, rfl, hj, rfl⟩ := hcut
        have hjl : j < bs.length := by rw [HNN.out]; exact hj
        obtain ⟨x, hx⟩ : ∃ x, x = bs[j] := ⟨_, rfl⟩
        obtain ⟨xa, xb⟩ := HRB.out x (by rw [hx]; exact List.getElem_mem hjl)
        obtain ⟨y, hy⟩ : ∃ y, y = (x + 1) % 256 := ⟨_, rfl⟩
        have hw8 : IntKind.u8.wrap (x + 1) = y := by rw [hy, IntKind.wrap_u8]
        have hy0 : 0 ≤ y ∧ y ≤ 255 := by omega
        have hb5 := HBK5.out
        rw [← List.map_append] at hb5
        have hcx : w5.cell? ⟨g3, 7 + j, none⟩ = some (.int .u8 x) := by
          rw [hb5.cell, List.getElem?_append_left (by rw [List.length_map, List.length_append, HFL.out]; omega), List.getElem?_map, HF.out, List.cons_append, List.cons_append, Zl.get_form bs more S j hjl, hx]
          rfl
        have hfx := hb5.frozen (7 + j)
        have HBS5 : Hid (Blk (w5.setCell ⟨g3, 7 + j, none⟩ (.int .u8 y)) g3 5 ((120 :: 1 :: (Zl.form (bs.set j y) S ++ more)).map (.int .u8) ++ ys)) := by
          have := hb5.set_ (7 + j) (.int .u8 y)
          rw [List.set_append_left _ _ (by rw [List.length_map, List.length_append, HFL.out]; omega), ← List.map_set, HF.out, List.cons_append, List.cons_append, Zl.set_form bs more S j hjl] at this
          exact this
        have hsl : (bs.set j y).length = n := by rw [List.length_set]; exact HNN.out
        have HSP := Lib.hid (unpack_spoilt g3 (N + m) c3 (bs.set j y) more S _ (ints_of_blk HBS5.out) (fun z hz => by
          rcases List.mem_or_eq_of_mem_set hz with h | rfl
          · exact HRB.out z h
          · exact hy0) HRM.out (by omega) (by rw [HMM.out]; omega) (by omega) HC3.out HBS5.out.lt HS0.out.1 HS0.out.2 (by rw [HSS.out, hy, hx]; exact Zl.of_spoilt bs j hjl (HRB.out _ (List.getElem_mem hjl)).1 (HRB.out _ (List.getElem_mem hjl)).2))
        rw [hsl] at HSP
        have HBW : Hid (Below w.heap.size w (w5.setCell ⟨g3, 7 + j, none⟩ (.int .u8 y))) := HB5.out.setCell (by have := HG3.out; have := HB1.out.size; show _ ≤ g3; omega) _
        have hj7 : (7 : Int) + j < ((N + m : Nat) : Int) := by omega
        have hj8 : 7 + j < N + m := by omega
        clear hjl hx hy hy0 hb5 hsl
        go_wp2_with (first
          | (go_at_call 12
             refine HSP.out.mono ?_
             rintro e w6 ⟨rfl, hb6⟩
             have HB6 := Lib.hid (HBW.out.trans (hb6.mono HBW.out.size))
             clear hb6)
          | (go_at_call 10; refine (HLV.out _).mono ?_; rintro e w7 ⟨rfl, hb7⟩; have HB7 := Lib.hid (HB6.out.trans (hb7.mono HB6.out.size)); clear hb7))
        go_ret
        exact ⟨rfl, HB7.out⟩
    · obtain rfl : n = 0 := by omega
      go_wp2_with (first
        | (go_at_call 12
           refine HU.out.mono ?_
           rintro e w5 ⟨rfl, hb5⟩
           have HB5 := Lib.hid (HB4.out.trans (hb5.mono HB4.out.size))
           clear hb5)
        | (go_at_call 10; refine (HLV.out _).mono ?_; rintro e w6 ⟨rfl, hb6⟩; have HB6 := Lib.hid (HB5.out.trans (hb6.mono HB5.out.size)); clear hb6))
      go_ret
      exact ⟨rfl, HB6.out⟩
end Go.Proofs.Ytcjdeinmmokdgaa
