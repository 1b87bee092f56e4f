/- The law RomMakes: its body. -/
import Derived.Test.YtnkjmmbhjhmgdaaRomN
namespace Go.Proofs.Ytnkjmmbhjhmgdaa
set_option linter.unusedSimpArgs false
set_option linter.unusedVariables false
open Go.RowKit Go.Maps Go.Sort
set_option maxRecDepth 100000 in
set_option maxHeartbeats 16000000 in
theorem makes_any (t : TimL) (n z : Int) (w : World) : Calls Try.prog 3 #[timV t, .int .i64 n, .int .i64 z] w fun e w' => e = .returned (.bool true) ∧ Below w.heap.size w w' := by
  have hb := below_alloc1 w (.cells #[.int .i64 t.pilot, .int .i64 t.sync1, .int .i64 t.sync2, .int .i64 t.zero, .int .i64 t.one] 23)
  have g1 := Blk.new w 23 [.int .i64 t.pilot, .int .i64 t.sync1, .int .i64 t.sync2, .int .i64 t.zero, .int .i64 t.one]
  obtain ⟨wa, hwa⟩ : ∃ u, u = w.alloc (.cells #[.int .i64 t.pilot, .int .i64 t.sync1, .int .i64 t.sync2, .int .i64 t.zero, .int .i64 t.one] 23) := ⟨_, rfl⟩
  obtain ⟨gt, hgt⟩ : ∃ g, g = w.heap.size := ⟨_, rfl⟩
  have GTA : Hid (Blk wa gt 23 [.int .i64 t.pilot, .int .i64 t.sync1, .int .i64 t.sync2, .int .i64 t.zero, .int .i64 t.one]) := Lib.hid (by rw [hwa, hgt]; exact g1)
  have HBA : Hid (Below w.heap.size w wa) := Lib.hid (by rw [hwa]; exact hb)
  have HW := Lib.hid hwa
  have HGT := Lib.hid hgt
  obtain ⟨m, hm⟩ : ∃ m, m = mayT t n := ⟨_, rfl⟩
  have HMI : Hid ((inB n 1 65534 && (inB t.pilot 86 65535 && (inB t.sync1 86 65535 && (inB t.sync2 32 65535 && (inB t.zero 192 65535 && inB t.one 192 65535))))) = m) := Lib.hid (by rw [hm]; exact (may_in t n).symm)
  have HOURS := Lib.hid (law_ours t)
  have HBUILD := Lib.hid (rom_Build t n)
  have HMAY := Lib.hid (rom_may t n)
  rw [← hm] at HBUILD HMAY
  clear hm hb g1 hwa hgt
  have ta_0 : wa.cell? ⟨gt, 0, none⟩ = some (.int .i64 t.pilot) := GTA.out.cell 0
  have ta_1 : wa.cell? ⟨gt, 1, none⟩ = some (.int .i64 t.sync1) := GTA.out.cell 1
  have ta_2 : wa.cell? ⟨gt, 2, none⟩ = some (.int .i64 t.sync2) := GTA.out.cell 2
  have ta_3 : wa.cell? ⟨gt, 3, none⟩ = some (.int .i64 t.zero) := GTA.out.cell 3
  have ta_4 : wa.cell? ⟨gt, 4, none⟩ = some (.int .i64 t.one) := GTA.out.cell 4
  unfold timV at HOURS HBUILD HMAY ⊢
  go_enter Try.func3, Try.ntmps3
  go_upto_region 1 with fail
  rw [← HW.out, ← HGT.out]
  clear HW HGT
  go_cut [7] (fun v wx => v = .bool m ∧ wa = wx)
  case first =>
    cases q0 : inB n 1 65534 with
    | false =>
      have hmm : m = false := by rw [← HMI.out]; simp [q0]
      go_wp2_with (first | (go_at_call 4; refine (law_in _ _ _ _).mono ?_; rintro e w2 ⟨rfl, rfl⟩))
      go_meet
      exact ⟨by rw [hmm], rfl⟩
    | true =>
      cases q1 : inB t.pilot 86 65535 with
      | false =>
        have hmm : m = false := by rw [← HMI.out]; simp [q0, q1]
        go_wp2_with (first | (go_at_call 4; refine (law_in _ _ _ _).mono ?_; rintro e w2 ⟨rfl, rfl⟩))
        go_meet
        exact ⟨by rw [hmm], rfl⟩
      | true =>
        cases q2 : inB t.sync1 86 65535 with
        | false =>
          have hmm : m = false := by rw [← HMI.out]; simp [q0, q1, q2]
          go_wp2_with (first | (go_at_call 4; refine (law_in _ _ _ _).mono ?_; rintro e w2 ⟨rfl, rfl⟩))
          go_meet
          exact ⟨by rw [hmm], rfl⟩
        | true =>
          cases q3 : inB t.sync2 32 65535 with
          | false =>
            have hmm : m = false := by rw [← HMI.out]; simp [q0, q1, q2, q3]
            go_wp2_with (first | (go_at_call 4; refine (law_in _ _ _ _).mono ?_; rintro e w2 ⟨rfl, rfl⟩))
            go_meet
            exact ⟨by rw [hmm], rfl⟩
          | true =>
            cases q4 : inB t.zero 192 65535 with
            | false =>
              have hmm : m = false := by rw [← HMI.out]; simp [q0, q1, q2, q3, q4]
              go_wp2_with (first | (go_at_call 4; refine (law_in _ _ _ _).mono ?_; rintro e w2 ⟨rfl, rfl⟩))
              go_meet
              exact ⟨by rw [hmm], rfl⟩
            | true =>
              cases q5 : inB t.one 192 65535 with
              | false =>
                have hmm : m = false := by rw [← HMI.out]; simp [q0, q1, q2, q3, q4, q5]
                go_wp2_with (first | (go_at_call 4; refine (law_in _ _ _ _).mono ?_; rintro e w2 ⟨rfl, rfl⟩))
                go_meet
                exact ⟨by rw [hmm], rfl⟩
              | true =>
                have hmm : m = true := by rw [← HMI.out]; simp [q0, q1, q2, q3, q4, q5]
                go_wp2_with (first | (go_at_call 4; refine (law_in _ _ _ _).mono ?_; rintro e w2 ⟨rfl, rfl⟩))
                go_meet
                exact ⟨by rw [hmm], rfl⟩
  case rest =>
    obtain ⟨rfl, rfl⟩ := hcut
    clear HMI
    cases m with
    | false =>
      have HBLD : Hid (∀ u, Calls Try.prog 5 #[.agg #[.int .i64 t.pilot, .int .i64 t.sync1, .int .i64 t.sync2, .int .i64 t.zero, .int .i64 t.one], .int .i64 n] u fun e w' => e = .returned (.tuple #[.slice none 0 0, .int .i64 5]) ∧ Below u.heap.size u w') := Lib.hid (fun u => (HBUILD.out u).mono fun e w2 h => by
        obtain ⟨h1 | h1, h2⟩ := h
        · exact ⟨h1.2, h2⟩
        · exact absurd h1.1 (by decide))
      clear HBUILD
      go_upto_region 3 with (first
        | (go_at_call 6; refine (HOURS.out _).mono ?_; rintro e wb ⟨rfl, hbB⟩; have HBB := Lib.hid (HBA.out.trans (hbB.mono HBA.out.size)); have GTB := Lib.hid (GTA.out.below_ hbB); clear hbB)
        | (go_at_call 5; refine (HBLD.out _).mono ?_; rintro e wc ⟨rfl, hbC⟩; have HBC := Lib.hid (HBB.out.trans (hbC.mono HBB.out.size)); have GTC := Lib.hid (GTB.out.below_ hbC); clear hbC; clear ta_0 ta_1 ta_2 ta_3 ta_4; have tC_0 : wc.cell? ⟨gt, 0, none⟩ = some (.int .i64 t.pilot) := GTC.out.cell 0; have tC_1 : wc.cell? ⟨gt, 1, none⟩ = some (.int .i64 t.sync1) := GTC.out.cell 1; have tC_2 : wc.cell? ⟨gt, 2, none⟩ = some (.int .i64 t.sync2) := GTC.out.cell 2; have tC_3 : wc.cell? ⟨gt, 3, none⟩ = some (.int .i64 t.zero) := GTC.out.cell 3; have tC_4 : wc.cell? ⟨gt, 4, none⟩ = some (.int .i64 t.one) := GTC.out.cell 4))
      go_upto_region 7 with (first
        | (go_at_call 6; refine (HOURS.out _).mono ?_; rintro e wd ⟨rfl, hbD⟩; have HBD := Lib.hid (HBC.out.trans (hbD.mono HBC.out.size)); have GTD := Lib.hid (GTC.out.below_ hbD); clear hbD)
        | (go_at_call 7; refine (HMAY.out _).mono ?_; rintro e we ⟨rfl, hbE⟩; have HBE := Lib.hid (HBD.out.trans (hbE.mono HBD.out.size)); have GTE := Lib.hid (GTD.out.below_ hbE); clear hbE))
      clear HOURS HBLD HMAY tC_0 tC_1 tC_2 tC_3 tC_4 GTA GTB GTC GTD GTE
      cases qz : inB z (-100000) 10000000 with
      | false =>
        go_wp2_with (first
          | (go_at_call 4; refine (law_in _ _ _ _).mono ?_; rintro e w2 ⟨rfl, rfl⟩)
          | (go_at_call 8; refine (law_lives _).mono ?_; rintro e w2 ⟨rfl, rfl⟩))
        go_ret
        exact ⟨rfl, HBE.out⟩
      | true =>
        have hz : -100000 ≤ z ∧ z ≤ 10000000 := by unfold inB at qz; simpa using qz
        obtain ⟨z0, z1⟩ := hz
        go_upto_region 9 with (first
          | (go_at_call 4; refine (law_in _ _ _ _).mono ?_; rintro e w2 ⟨rfl, rfl⟩))
        obtain ⟨y, hy⟩ : ∃ y, y = max 0 z := ⟨_, rfl⟩
        obtain ⟨p, hp⟩ : ∃ p, p = y * 46 / 1000 - 3 := ⟨_, rfl⟩
        obtain ⟨q, hq⟩ : ∃ q, q = y * 23 / 1000 - 2 := ⟨_, rfl⟩
        have hs := samp_law z z0 z1 y hy
        rw [← hp, ← hq] at hs
        have HSM : Hid (Calls Try.prog 9 #[.int .i64 z] we fun e w' => e = .returned (.int .u16 (256 * withinF p + withinF q)) ∧ we = w') := Lib.hid (by rw [← hs]; exact sample_tail z (max 0 (min z 65535)) (by omega) (by omega) we rfl)
        have p0 : -3 ≤ p ∧ p ≤ 460000 := by omega
        have q0 : -2 ≤ q ∧ q ≤ 460000 := by omega
        have HY := Lib.hid hy
        have HP := Lib.hid hp
        have HQ := Lib.hid hq
        clear hy hp hq hs qz
        go_cut [10, 11] (fun a b wx => a = .int .i64 p ∧ b = .int .i64 q ∧ we = wx)
        case first =>
          by_cases c1 : 0 < z
          · have d1 : Int.tdiv (z * 46) 1000 = p + 3 := by rw [tdiv_1000 _ (by omega)]; have := HP.out; have := HY.out; omega
            have d2 : Int.tdiv (z * 23) 1000 = q + 2 := by rw [tdiv_1000 _ (by omega)]; have := HQ.out; have := HY.out; omega
            have s1 : IntKind.i64.wrap (p + 3 - 3) = p := by rw [IntKind.wrap_i64]; omega
            have s2 : IntKind.i64.wrap (q + 2 - 2) = q := by rw [IntKind.wrap_i64]; omega
            go_wp2_with fail
            go_meet
            exact ⟨rfl, rfl, rfl⟩
          · have e1 : p = -3 := by rw [HP.out, HY.out]; omega
            have e2 : q = -2 := by rw [HQ.out, HY.out]; omega
            clear HP HQ HSM
            subst e1
            subst e2
            go_wp2_with fail
            go_meet
            exact ⟨rfl, rfl, rfl⟩
        case rest =>
          obtain ⟨rfl, rfl, rfl⟩ := hcut
          clear HP HQ HY
          by_cases p1 : 255 < p
          · have ep : withinF p = 255 := by unfold withinF; omega
            rw [ep] at HSM
            by_cases q1 : 255 < q
            · have eq : withinF q = 255 := by unfold withinF; omega
              rw [eq] at HSM
              go_wp2_with (first
                | (go_at_call 9; refine HSM.out.mono ?_; rintro e w2 ⟨rfl, rfl⟩)
                | (go_at_call 8; refine (law_lives _).mono ?_; rintro e w2 ⟨rfl, rfl⟩))
              go_ret
              exact ⟨by simp, HBE.out⟩
            · by_cases q2 : q ≤ 1
              · have eq : withinF q = 1 := by unfold withinF; omega
                rw [eq] at HSM
                go_wp2_with (first
                  | (go_at_call 9; refine HSM.out.mono ?_; rintro e w2 ⟨rfl, rfl⟩)
                  | (go_at_call 8; refine (law_lives _).mono ?_; rintro e w2 ⟨rfl, rfl⟩))
                go_ret
                exact ⟨by simp, HBE.out⟩
              · have eq : withinF q = q := by unfold withinF; omega
                rw [eq] at HSM
                go_wp2_with (first
                  | (go_at_call 9; refine HSM.out.mono ?_; rintro e w2 ⟨rfl, rfl⟩)
                  | (go_at_call 8; refine (law_lives _).mono ?_; rintro e w2 ⟨rfl, rfl⟩))
                go_ret
                exact ⟨by simp, HBE.out⟩
          · by_cases p2 : p ≤ 1
            · have ep : withinF p = 1 := by unfold withinF; omega
              rw [ep] at HSM
              by_cases q1 : 255 < q
              · have eq : withinF q = 255 := by unfold withinF; omega
                rw [eq] at HSM
                go_wp2_with (first
                  | (go_at_call 9; refine HSM.out.mono ?_; rintro e w2 ⟨rfl, rfl⟩)
                  | (go_at_call 8; refine (law_lives _).mono ?_; rintro e w2 ⟨rfl, rfl⟩))
                go_ret
                exact ⟨by simp, HBE.out⟩
              · by_cases q2 : q ≤ 1
                · have eq : withinF q = 1 := by unfold withinF; omega
                  rw [eq] at HSM
                  go_wp2_with (first
                    | (go_at_call 9; refine HSM.out.mono ?_; rintro e w2 ⟨rfl, rfl⟩)
                    | (go_at_call 8; refine (law_lives _).mono ?_; rintro e w2 ⟨rfl, rfl⟩))
                  go_ret
                  exact ⟨by simp, HBE.out⟩
                · have eq : withinF q = q := by unfold withinF; omega
                  rw [eq] at HSM
                  go_wp2_with (first
                    | (go_at_call 9; refine HSM.out.mono ?_; rintro e w2 ⟨rfl, rfl⟩)
                    | (go_at_call 8; refine (law_lives _).mono ?_; rintro e w2 ⟨rfl, rfl⟩))
                  go_ret
                  exact ⟨by simp, HBE.out⟩
            · have ep : withinF p = p := by unfold withinF; omega
              rw [ep] at HSM
              by_cases q1 : 255 < q
              · have eq : withinF q = 255 := by unfold withinF; omega
                rw [eq] at HSM
                go_wp2_with (first
                  | (go_at_call 9; refine HSM.out.mono ?_; rintro e w2 ⟨rfl, rfl⟩)
                  | (go_at_call 8; refine (law_lives _).mono ?_; rintro e w2 ⟨rfl, rfl⟩))
                go_ret
                exact ⟨by simp, HBE.out⟩
              · by_cases q2 : q ≤ 1
                · have eq : withinF q = 1 := by unfold withinF; omega
                  rw [eq] at HSM
                  go_wp2_with (first
                    | (go_at_call 9; refine HSM.out.mono ?_; rintro e w2 ⟨rfl, rfl⟩)
                    | (go_at_call 8; refine (law_lives _).mono ?_; rintro e w2 ⟨rfl, rfl⟩))
                  go_ret
                  exact ⟨by simp, HBE.out⟩
                · have eq : withinF q = q := by unfold withinF; omega
                  rw [eq] at HSM
                  go_wp2_with (first
                    | (go_at_call 9; refine HSM.out.mono ?_; rintro e w2 ⟨rfl, rfl⟩)
                    | (go_at_call 8; refine (law_lives _).mono ?_; rintro e w2 ⟨rfl, rfl⟩))
                  go_ret
                  exact ⟨by simp, HBE.out⟩
    | true =>
      have HBLD : Hid (∀ u, Calls Try.prog 5 #[.agg #[.int .i64 t.pilot, .int .i64 t.sync1, .int .i64 t.sync2, .int .i64 t.zero, .int .i64 t.one], .int .i64 n] u fun e w' => (∃ A c, e = .returned (.tuple #[.slice A 16384 c, .int .i64 0])) ∧ Below u.heap.size u w') := Lib.hid (fun u => (HBUILD.out u).mono fun e w2 h => by
        obtain ⟨h1 | h1, h2⟩ := h
        · exact absurd h1.1 (by decide)
        · exact ⟨h1.2, h2⟩)
      clear HBUILD
      go_upto_region 3 with (first
        | (go_at_call 6; refine (HOURS.out _).mono ?_; rintro e wb ⟨rfl, hbB⟩; have HBB := Lib.hid (HBA.out.trans (hbB.mono HBA.out.size)); have GTB := Lib.hid (GTA.out.below_ hbB); clear hbB)
        | (go_at_call 5; refine (HBLD.out _).mono ?_; rintro e wc ⟨⟨A, c, rfl⟩, hbC⟩; have HBC := Lib.hid (HBB.out.trans (hbC.mono HBB.out.size)); have GTC := Lib.hid (GTB.out.below_ hbC); clear hbC; clear ta_0 ta_1 ta_2 ta_3 ta_4; have tC_0 : wc.cell? ⟨gt, 0, none⟩ = some (.int .i64 t.pilot) := GTC.out.cell 0; have tC_1 : wc.cell? ⟨gt, 1, none⟩ = some (.int .i64 t.sync1) := GTC.out.cell 1; have tC_2 : wc.cell? ⟨gt, 2, none⟩ = some (.int .i64 t.sync2) := GTC.out.cell 2; have tC_3 : wc.cell? ⟨gt, 3, none⟩ = some (.int .i64 t.zero) := GTC.out.cell 3; have tC_4 : wc.cell? ⟨gt, 4, none⟩ = some (.int .i64 t.one) := GTC.out.cell 4))
      go_upto_region 7 with (first
        | (go_at_call 6; refine (HOURS.out _).mono ?_; rintro e wd ⟨rfl, hbD⟩; have HBD := Lib.hid (HBC.out.trans (hbD.mono HBC.out.size)); have GTD := Lib.hid (GTC.out.below_ hbD); clear hbD)
        | (go_at_call 7; refine (HMAY.out _).mono ?_; rintro e we ⟨rfl, hbE⟩; have HBE := Lib.hid (HBD.out.trans (hbE.mono HBD.out.size)); have GTE := Lib.hid (GTD.out.below_ hbE); clear hbE))
      clear HOURS HBLD HMAY tC_0 tC_1 tC_2 tC_3 tC_4 GTA GTB GTC GTD GTE
      cases qz : inB z (-100000) 10000000 with
      | false =>
        go_wp2_with (first
          | (go_at_call 4; refine (law_in _ _ _ _).mono ?_; rintro e w2 ⟨rfl, rfl⟩)
          | (go_at_call 8; refine (law_lives _).mono ?_; rintro e w2 ⟨rfl, rfl⟩))
        go_ret
        exact ⟨rfl, HBE.out⟩
      | true =>
        have hz : -100000 ≤ z ∧ z ≤ 10000000 := by unfold inB at qz; simpa using qz
        obtain ⟨z0, z1⟩ := hz
        go_upto_region 9 with (first
          | (go_at_call 4; refine (law_in _ _ _ _).mono ?_; rintro e w2 ⟨rfl, rfl⟩))
        obtain ⟨y, hy⟩ : ∃ y, y = max 0 z := ⟨_, rfl⟩
        obtain ⟨p, hp⟩ : ∃ p, p = y * 46 / 1000 - 3 := ⟨_, rfl⟩
        obtain ⟨q, hq⟩ : ∃ q, q = y * 23 / 1000 - 2 := ⟨_, rfl⟩
        have hs := samp_law z z0 z1 y hy
        rw [← hp, ← hq] at hs
        have HSM : Hid (Calls Try.prog 9 #[.int .i64 z] we fun e w' => e = .returned (.int .u16 (256 * withinF p + withinF q)) ∧ we = w') := Lib.hid (by rw [← hs]; exact sample_tail z (max 0 (min z 65535)) (by omega) (by omega) we rfl)
        have p0 : -3 ≤ p ∧ p ≤ 460000 := by omega
        have q0 : -2 ≤ q ∧ q ≤ 460000 := by omega
        have HY := Lib.hid hy
        have HP := Lib.hid hp
        have HQ := Lib.hid hq
        clear hy hp hq hs qz
        go_cut [10, 11] (fun a b wx => a = .int .i64 p ∧ b = .int .i64 q ∧ we = wx)
        case first =>
          by_cases c1 : 0 < z
          · have d1 : Int.tdiv (z * 46) 1000 = p + 3 := by rw [tdiv_1000 _ (by omega)]; have := HP.out; have := HY.out; omega
            have d2 : Int.tdiv (z * 23) 1000 = q + 2 := by rw [tdiv_1000 _ (by omega)]; have := HQ.out; have := HY.out; omega
            have s1 : IntKind.i64.wrap (p + 3 - 3) = p := by rw [IntKind.wrap_i64]; omega
            have s2 : IntKind.i64.wrap (q + 2 - 2) = q := by rw [IntKind.wrap_i64]; omega
            go_wp2_with fail
            go_meet
            exact ⟨rfl, rfl, rfl⟩
          · have e1 : p = -3 := by rw [HP.out, HY.out]; omega
            have e2 : q = -2 := by rw [HQ.out, HY.out]; omega
            clear HP HQ HSM
            subst e1
            subst e2
            go_wp2_with fail
            go_meet
            exact ⟨rfl, rfl, rfl⟩
        case rest =>
          obtain ⟨rfl, rfl, rfl⟩ := hcut
          clear HP HQ HY
          by_cases p1 : 255 < p
          · have ep : withinF p = 255 := by unfold withinF; omega
            rw [ep] at HSM
            by_cases q1 : 255 < q
            · have eq : withinF q = 255 := by unfold withinF; omega
              rw [eq] at HSM
              go_wp2_with (first
                | (go_at_call 9; refine HSM.out.mono ?_; rintro e w2 ⟨rfl, rfl⟩)
                | (go_at_call 8; refine (law_lives _).mono ?_; rintro e w2 ⟨rfl, rfl⟩))
              go_ret
              exact ⟨by simp, HBE.out⟩
            · by_cases q2 : q ≤ 1
              · have eq : withinF q = 1 := by unfold withinF; omega
                rw [eq] at HSM
                go_wp2_with (first
                  | (go_at_call 9; refine HSM.out.mono ?_; rintro e w2 ⟨rfl, rfl⟩)
                  | (go_at_call 8; refine (law_lives _).mono ?_; rintro e w2 ⟨rfl, rfl⟩))
                go_ret
                exact ⟨by simp, HBE.out⟩
              · have eq : withinF q = q := by unfold withinF; omega
                rw [eq] at HSM
                go_wp2_with (first
                  | (go_at_call 9; refine HSM.out.mono ?_; rintro e w2 ⟨rfl, rfl⟩)
                  | (go_at_call 8; refine (law_lives _).mono ?_; rintro e w2 ⟨rfl, rfl⟩))
                go_ret
                exact ⟨by simp, HBE.out⟩
          · by_cases p2 : p ≤ 1
            · have ep : withinF p = 1 := by unfold withinF; omega
              rw [ep] at HSM
              by_cases q1 : 255 < q
              · have eq : withinF q = 255 := by unfold withinF; omega
                rw [eq] at HSM
                go_wp2_with (first
                  | (go_at_call 9; refine HSM.out.mono ?_; rintro e w2 ⟨rfl, rfl⟩)
                  | (go_at_call 8; refine (law_lives _).mono ?_; rintro e w2 ⟨rfl, rfl⟩))
                go_ret
                exact ⟨by simp, HBE.out⟩
              · by_cases q2 : q ≤ 1
                · have eq : withinF q = 1 := by unfold withinF; omega
                  rw [eq] at HSM
                  go_wp2_with (first
                    | (go_at_call 9; refine HSM.out.mono ?_; rintro e w2 ⟨rfl, rfl⟩)
                    | (go_at_call 8; refine (law_lives _).mono ?_; rintro e w2 ⟨rfl, rfl⟩))
                  go_ret
                  exact ⟨by simp, HBE.out⟩
                · have eq : withinF q = q := by unfold withinF; omega
                  rw [eq] at HSM
                  go_wp2_with (first
                    | (go_at_call 9; refine HSM.out.mono ?_; rintro e w2 ⟨rfl, rfl⟩)
                    | (go_at_call 8; refine (law_lives _).mono ?_; rintro e w2 ⟨rfl, rfl⟩))
                  go_ret
                  exact ⟨by simp, HBE.out⟩
            · have ep : withinF p = p := by unfold withinF; omega
              rw [ep] at HSM
              by_cases q1 : 255 < q
              · have eq : withinF q = 255 := by unfold withinF; omega
                rw [eq] at HSM
                go_wp2_with (first
                  | (go_at_call 9; refine HSM.out.mono ?_; rintro e w2 ⟨rfl, rfl⟩)
                  | (go_at_call 8; refine (law_lives _).mono ?_; rintro e w2 ⟨rfl, rfl⟩))
                go_ret
                exact ⟨by simp, HBE.out⟩
              · by_cases q2 : q ≤ 1
                · have eq : withinF q = 1 := by unfold withinF; omega
                  rw [eq] at HSM
                  go_wp2_with (first
                    | (go_at_call 9; refine HSM.out.mono ?_; rintro e w2 ⟨rfl, rfl⟩)
                    | (go_at_call 8; refine (law_lives _).mono ?_; rintro e w2 ⟨rfl, rfl⟩))
                  go_ret
                  exact ⟨by simp, HBE.out⟩
                · have eq : withinF q = q := by unfold withinF; omega
                  rw [eq] at HSM
                  go_wp2_with (first
                    | (go_at_call 9; refine HSM.out.mono ?_; rintro e w2 ⟨rfl, rfl⟩)
                    | (go_at_call 8; refine (law_lives _).mono ?_; rintro e w2 ⟨rfl, rfl⟩))
                  go_ret
                  exact ⟨by simp, HBE.out⟩
end Go.Proofs.Ytnkjmmbhjhmgdaa
