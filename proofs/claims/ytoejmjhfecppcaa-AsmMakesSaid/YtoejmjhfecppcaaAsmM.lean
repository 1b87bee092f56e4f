/- The document's answer: May, wait. -/
import Derived.Test.YtoejmjhfecppcaaAsmK
namespace Go.Proofs.Ytoejmjhfecppcaa
set_option linter.unusedSimpArgs false
set_option linter.unusedVariables false
open Go.RowKit Go.Maps Go.Sort
def tailL (m x : Int) : List Int :=
  if m % 4 = 1 then nextL x ++ ([6, 0] ++ zerosL ((m - 17) / 4))
  else if m % 4 = 2 then nextL x ++ zerosL ((m - 10) / 4)
  else if m % 4 = 3 then [6, 0] ++ zerosL ((m - 7) / 4)
  else zerosL (m / 4)
def headL (n : Int) : List Int := (rounds (n.toNat + 1) n).1.flatten
def waitL (n x : Int) : List Int := headL n ++ tailL (rounds (n.toNat + 1) n).2 (x + (headL n).length)
theorem zeros_step {z : Int} (h : 4 ≤ z) : zerosL (z / 4) = 0 :: zerosL ((z - 4) / 4) := by
  unfold zerosL
  have e : (z / 4).toNat = ((z - 4) / 4).toNat + 1 := by omega
  rw [e, List.replicate_succ]
/-- bytes that were made -/
def BytesR (l : List Int) (w : World) (e : Ending) (w' : World) : Prop := ∃ A n c, e = .returned (.slice A n c) ∧ Ints w' A .u8 l ∧ l.length = n ∧ (A = none → n = 0 ∧ c = 0) ∧ Below w.heap.size w w'
theorem wait_end {w w' : World} {v : Value} {l l' : List Int} (ho : w'.ownsRow w.heap.size 5 1 v l.length (l.map (.int .u8 ·))) (hb : Below w.heap.size w w') (he : l = l') : BytesR l' w (.returned v) w' := by
  subst he
  obtain ⟨A, c, rfl, hn, _⟩ := own_form ho
  exact ⟨A, _, c, rfl, own_cells ho, rfl, hn, hb⟩
set_option maxHeartbeats 1000000 in
theorem May28 (n : Int) (w : World) : Calls Try.prog 51 #[.int .i64 n] w fun e w' => e = .returned (.bool (mayB n)) ∧ w = w' := by
  go_enter Try.func51, Try.ntmps51
  by_cases h : n = 0 ∨ n = 4 ∨ n = 7 ∨ n = 8 ∨ n = 10 ∨ n = 11 ∨ n = 12
  · have hm : mayB n = true := by unfold mayB; simp; omega
    rw [hm]
    rcases h with rfl | rfl | rfl | rfl | rfl | rfl | rfl
    all_goals
      go_wp2_with fail
      go_ret
      exact ⟨rfl, rfl⟩
  · have h0 : ¬ n = 0 := by omega
    have h1 : ¬ n = 4 := by omega
    have h2 : ¬ n = 7 := by omega
    have h3 : ¬ n = 8 := by omega
    have h4 : ¬ n = 10 := by omega
    have h5 : ¬ n = 11 := by omega
    have h6 : ¬ n = 12 := by omega
    by_cases h7 : 14 ≤ n
    · by_cases h8 : n ≤ 1000000
      · have hm : mayB n = true := by unfold mayB; simp; omega
        rw [hm]
        go_wp2_with fail
        go_ret
        exact ⟨rfl, rfl⟩
      · have hm : mayB n = false := by unfold mayB; simp; omega
        rw [hm]
        go_wp2_with fail
        go_ret
        refine ⟨?_, rfl⟩
        show Ending.returned (.bool (n == 0 || n == 4 || n == 7 || n == 8 || n == 10 || n == 11 || n == 12)) = _
        rw [show (n == 0 || n == 4 || n == 7 || n == 8 || n == 10 || n == 11 || n == 12) = false by simp [h0, h1, h2, h3, h4, h5, h6]]
    · have hm : mayB n = false := by unfold mayB; simp; omega
      rw [hm]
      go_wp2_with fail
      go_ret
      refine ⟨?_, rfl⟩
      show Ending.returned (.bool (n == 0 || n == 4 || n == 7 || n == 8 || n == 10 || n == 11 || n == 12)) = _
      rw [show (n == 0 || n == 4 || n == 7 || n == 8 || n == 10 || n == 11 || n == 12) = false by simp [h0, h1, h2, h3, h4, h5, h6]]
set_option maxRecDepth 100000 in
set_option maxHeartbeats 16000000 in
theorem wait28 (n x : Int) (hn : MayN n) (x0 : 0 ≤ x) (x1 : x ≤ 70000) (w : World) : Calls Try.prog 61 #[.int .i64 n, .int .i64 x] w (BytesR (waitL n x) w) := by
  have HWT : Hid (waitL n x = headL n ++ tailL (rounds (n.toNat + 1) n).2 (x + (headL n).length)) := Lib.hid rfl
  have HN := Lib.hid hn
  have hn1 : 0 ≤ n ∧ n ≤ 1000000 := by unfold MayN at hn; omega
  clear hn
  go_enter Try.func61, Try.ntmps61
  go_wp2_with fail
  go_loopw [0, 5] (fun nv bv u => ∃ (m : Int) (f : Nat) (v : Value) (acc : List Int), nv = .int .i64 m ∧ v = bv ∧ Hid (MayN m) ∧ m.toNat < f ∧ acc.length + m.toNat ≤ 1000000 ∧ Hid (u.ownsRow w.heap.size 5 1 v acc.length (acc.map (.int .u8 ·))) ∧ Hid (Below w.heap.size w u) ∧ Hid (acc ++ (rounds f m).1.flatten = headL n ∧ (rounds f m).2 = (rounds (n.toNat + 1) n).2)) (fun nv _ _ => (intOf nv).toNat)
  case atStart => exact ⟨n, n.toNat + 1, _, [], rfl, rfl, HN, by omega, by simp; omega, Lib.hid (World.ownsRow_nil _ _ _ _), Lib.hid (Below.refl _ _), Lib.hid ⟨by simp [headL], rfl⟩⟩
  case round =>
    obtain ⟨m, f, v, acc, rfl, rfl, HM, hf, hla, HO, HB, HE⟩ := hrel
    have hsz := HB.out.size
    have hmb2 : 0 ≤ m ∧ m ≤ 1000000 := by have := HM.out; unfold MayN at this; omega
    obtain ⟨m0, m1⟩ := hmb2
    by_cases h29 : 29 ≤ m
    · obtain ⟨f', rfl⟩ : ∃ f', f = f' + 1 := ⟨f - 1, by omega⟩
      have w14 : IntKind.i64.wrap (m - 14) = m - 14 := by rw [IntKind.wrap_i64]; omega
      go_wp2_with fail
      obtain ⟨wo, rfl⟩ : ∃ wo : World, wo = wr := ⟨_, rfl⟩
      go_loopw [6] (fun kv u => ∃ j : Int, kv = .int .i64 j ∧ 1 ≤ j ∧ j ≤ 255 ∧ 13 * j ≤ m - 16 ∧ wo = u) (fun kv _ => 255 - (intOf kv).toNat)
      case atStart => exact ⟨1, rfl, by omega, by omega, by omega, rfl⟩
      case round =>
        obtain ⟨j, rfl, j0, j1, j2, rfl⟩ := hrel
        have wj1 : IntKind.i64.wrap (j + 1) = j + 1 := by rw [IntKind.wrap_i64]; omega
        have wj2 : IntKind.i64.wrap (13 * (j + 1)) = 13 * (j + 1) := by rw [IntKind.wrap_i64]; omega
        have wj3 : IntKind.i64.wrap (13 * (j + 1) + 2) = 13 * (j + 1) + 2 := by rw [IntKind.wrap_i64]; omega
        have e8 : IntKind.u8.wrap j = j := by rw [IntKind.wrap_u8]; omega
        have wk1 : IntKind.i64.wrap (13 * j) = 13 * j := by rw [IntKind.wrap_i64]; omega
        by_cases hj : j < 255
        · by_cases hg : 13 * (j + 1) + 2 ≤ m - 14
          · go_wp2_with fail
            go_roundw
            case rel => exact ⟨j + 1, by go_num, by omega, by omega, by omega, trivial⟩
            case measure => simp [intOf]; omega
          · have HQ : Hid (roundK m = j) := Lib.hid (by unfold roundK; omega)
            go_wp2_with (first
              | (at_builtin; refine wpList_appL _ rfl (.tmp 23) (.tmp 26) 47 rfl w.heap.size 5 (.int .u8 0) 1 1 Try.underlying47 infoU8 rfl (by decide) _ acc.length _ rfl HO.out #[.int .u8 6, .int .u8 j, .int .u8 16, .int .u8 254] 4 rfl rfl (by simp [Value.oneCell']) (by decide) (by omega) (by decide) hsz ?_; intro g6 c6 w6 hown hg _; have HB6 := Lib.hid (Below_own HB.out HO.out hg (Nat.le_refl _) hsz); have HO6 := Lib.hid hown; have hsz6 := HB6.out.size; clear hown hg))
            go_roundw
            case rel => exact ⟨m - (13 * j + 2), f', _, acc ++ [6, j, 16, 254], by go_num, rfl, Lib.hid (by have := HM.out; unfold MayN; omega), by omega, by simp; omega, Lib.hid (by simpa using HO6.out), HB6, Lib.hid (by
              have := HE.out
              rw [rounds_step (by omega), HQ.out] at this
              have hr : roundB m = [6, j, 16, 254] := by unfold roundB; rw [HQ.out]
              rw [hr] at this
              simpa using this)⟩
            case measure => simp [intOf]; omega
        · have HQ : Hid (roundK m = j) := Lib.hid (by unfold roundK; omega)
          go_wp2_with (first
            | (at_builtin; refine wpList_appL _ rfl (.tmp 23) (.tmp 26) 47 rfl w.heap.size 5 (.int .u8 0) 1 1 Try.underlying47 infoU8 rfl (by decide) _ acc.length _ rfl HO.out #[.int .u8 6, .int .u8 j, .int .u8 16, .int .u8 254] 4 rfl rfl (by simp [Value.oneCell']) (by decide) (by omega) (by decide) hsz ?_; intro g6 c6 w6 hown hg _; have HB6 := Lib.hid (Below_own HB.out HO.out hg (Nat.le_refl _) hsz); have HO6 := Lib.hid hown; have hsz6 := HB6.out.size; clear hown hg))
          go_roundw
          case rel => exact ⟨m - (13 * j + 2), f', _, acc ++ [6, j, 16, 254], by go_num, rfl, Lib.hid (by have := HM.out; unfold MayN; omega), by omega, by simp; omega, Lib.hid (by simpa using HO6.out), HB6, Lib.hid (by
            have := HE.out
            rw [rounds_step (by omega), HQ.out] at this
            have hr : roundB m = [6, j, 16, 254] := by unfold roundB; rw [HQ.out]
            rw [hr] at this
            simpa using this)⟩
          case measure => simp [intOf]; omega
    · have HEE : Hid (headL n = acc ∧ m = (rounds (n.toNat + 1) n).2) := Lib.hid (by
        have := HE.out
        rw [rounds_end (by omega)] at this
        exact ⟨by simpa using this.1.symm, this.2⟩)
      clear HE hf
      obtain ⟨Av, cv, rfl, _, _⟩ := own_form HO.out
      have hm4 : m % 4 = 0 ∨ m % 4 = 1 ∨ m % 4 = 2 ∨ m % 4 = 3 := by omega
      rcases hm4 with hr | hr | hr | hr
      · have HR : Hid (m % 4 = 0) := Lib.hid hr
        have hge : 0 ≤ m ∧ m ≤ 28 := by have := HM.out; unfold MayN at this; omega
        obtain ⟨g0, g1⟩ := hge
        have rm : Int.tmod m 4 = 0 := by rw [Int.tmod_eq_emod_of_nonneg (by omega)]; exact hr
        clear hr
        go_wp2_with fail
        go_loopw [0, 5] (fun nv bv u => ∃ (z : Int) (v : Value) (acc2 : List Int), nv = .int .i64 z ∧ v = bv ∧ 0 ≤ z ∧ z ≤ 30 ∧ acc2.length + z.toNat ≤ 1100000 ∧ Hid (u.ownsRow w.heap.size 5 1 v acc2.length (acc2.map (.int .u8 ·))) ∧ Hid (Below w.heap.size w u) ∧ Hid (acc2 ++ zerosL (z / 4) = waitL n x)) (fun nv _ _ => (intOf nv).toNat)
        case atStart => exact ⟨_, _, acc, rfl, rfl, by omega, by omega, by omega, Lib.hid (by exact HO.out), HB, Lib.hid (by
          rw [HWT.out, HEE.out.1, ← HEE.out.2]
          unfold tailL
          rw [if_neg (by rw [HR.out]; decide), if_neg (by rw [HR.out]; decide), if_neg (by rw [HR.out]; decide)])⟩
        case round =>
          obtain ⟨z, v, acc2, rfl, rfl, z0, z1, hla, HO3, HB3, HE3⟩ := hrel
          have hsz3 := HB3.out.size
          by_cases hz : 4 ≤ z
          · go_wp2_with (first
              | (at_builtin; refine wpList_appL _ rfl (.tmp 68) (.tmp 69) 47 rfl w.heap.size 5 (.int .u8 0) 1 1 Try.underlying47 infoU8 rfl (by decide) _ acc2.length _ rfl HO3.out #[.int .u8 0] 1 rfl rfl (by simp [Value.oneCell']) (by decide) (by omega) (by decide) hsz3 ?_; intro g4 c4 w4 hown hg _; have HB4 := Lib.hid (Below_own HB3.out HO3.out hg (Nat.le_refl _) hsz3); have HO4 := Lib.hid hown; have hsz4 := HB4.out.size; clear hown hg))
            go_roundw
            case rel => exact ⟨z - 4, _, acc2 ++ [0], by go_num, rfl, by omega, by omega, by simp; omega, Lib.hid (by rw [List.map_append, List.length_append]; exact HO4.out), HB4, Lib.hid (by
              rw [← HE3.out, zeros_step hz, List.append_assoc]
              rfl)⟩
            case measure => simp [intOf]; omega
          · go_wp2_with fail
            go_ret
            exact wait_end HO3.out HB3.out (by rw [← HE3.out, show z / 4 = 0 by omega]; simp [zerosL])
      · have HR : Hid (m % 4 = 1) := Lib.hid hr
        have hge : 17 ≤ m ∧ m ≤ 28 := by have := HM.out; unfold MayN at this; omega
        obtain ⟨g0, g1⟩ := hge
        have rm : Int.tmod m 4 = 1 := by rw [Int.tmod_eq_emod_of_nonneg (by omega)]; exact hr
        obtain ⟨p, hp⟩ : ∃ p, p = x + (acc.length : Int) + 3 := ⟨_, rfl⟩
        have HP := Lib.hid hp
        have w1 : IntKind.i64.wrap (x + (acc.length : Int)) = x + (acc.length : Int) := by rw [IntKind.wrap_i64]; omega
        have w2 : IntKind.i64.wrap (x + (acc.length : Int) + 3) = p := by rw [IntKind.wrap_i64]; omega
        have tp : Int.tmod p 65536 = p % 65536 := by rw [Int.tmod_eq_emod_of_nonneg (by omega)]
        obtain ⟨y, hy⟩ : ∃ y, p % 65536 = y := ⟨_, rfl⟩
        have HY := Lib.hid hy
        rw [hy] at tp
        have ty1 : Int.tmod y 256 = y % 256 := by rw [Int.tmod_eq_emod_of_nonneg (by omega)]
        have ty2 : Int.tdiv y 256 = y / 256 := by rw [Int.tdiv_eq_ediv_of_nonneg (by omega)]
        have e1 : IntKind.u8.wrap (y % 256) = y % 256 := by rw [IntKind.wrap_u8]; omega
        have e2 : IntKind.u8.wrap (y / 256) = y / 256 := by rw [IntKind.wrap_u8]; omega
        have hnx : nextL (x + (acc.length : Int)) = [195, y % 256, y / 256] := by unfold nextL; rw [← hp, ← hy]; simp; omega
        have HNX := Lib.hid hnx
        have y0 : 0 ≤ y := by omega
        have y1 : y ≤ 65535 := by omega
        have wy : IntKind.i64.wrap (y / 256) = y / 256 := by rw [IntKind.wrap_i64]; omega
        clear hp hy hnx
        have rm2 : Int.tmod (m - 10) 4 = 3 := by rw [Int.tmod_eq_emod_of_nonneg (by omega)]; omega
        clear hr
        go_wp2_with (first
          | (at_builtin; refine wpList_appL _ rfl (.tmp 47) (.tmp 54) 47 rfl w.heap.size 5 (.int .u8 0) 1 1 Try.underlying47 infoU8 rfl (by decide) _ acc.length _ rfl HO.out #[.int .u8 195, .int .u8 (y % 256), .int .u8 (y / 256)] 3 rfl rfl (by simp [Value.oneCell']) (by decide) (by omega) (by decide) hsz ?_; intro g1 c1 w1 hown hg _; have HB1 := Lib.hid (Below_own HB.out HO.out hg (Nat.le_refl _) hsz); have HO1 := Lib.hid hown; have hsz1 := HB1.out.size; clear hown hg)
          | (at_builtin; refine wpList_appL _ rfl (.tmp 61) (.tmp 62) 47 rfl w.heap.size 5 (.int .u8 0) 1 1 Try.underlying47 infoU8 rfl (by decide) _ (acc.length + 3) _ rfl HO1.out #[.int .u8 6, .int .u8 0] 2 rfl rfl (by simp [Value.oneCell']) (by decide) (by omega) (by decide) hsz1 ?_; intro g2 c2 w2 hown hg _; have HB2 := Lib.hid (Below_own HB1.out HO1.out hg (Nat.le_refl _) hsz1); have HO2 := Lib.hid hown; have hsz2 := HB2.out.size; clear hown hg))
        go_loopw [0, 5] (fun nv bv u => ∃ (z : Int) (v : Value) (acc2 : List Int), nv = .int .i64 z ∧ v = bv ∧ 0 ≤ z ∧ z ≤ 30 ∧ acc2.length + z.toNat ≤ 1100000 ∧ Hid (u.ownsRow w.heap.size 5 1 v acc2.length (acc2.map (.int .u8 ·))) ∧ Hid (Below w.heap.size w u) ∧ Hid (acc2 ++ zerosL (z / 4) = waitL n x)) (fun nv _ _ => (intOf nv).toNat)
        case atStart => exact ⟨_, _, (acc ++ [195, y % 256, y / 256] ++ [6, 0]), rfl, rfl, by omega, by omega, by simp; omega, Lib.hid (by simpa using HO2.out), HB2, Lib.hid (by
          rw [HWT.out, HEE.out.1, ← HEE.out.2]
          unfold tailL
          rw [if_pos HR.out]
          rw [HNX.out, show (m - 10 - 7) / 4 = (m - 17) / 4 by omega]
          simp)⟩
        case round =>
          obtain ⟨z, v, acc2, rfl, rfl, z0, z1, hla, HO3, HB3, HE3⟩ := hrel
          have hsz3 := HB3.out.size
          by_cases hz : 4 ≤ z
          · go_wp2_with (first
              | (at_builtin; refine wpList_appL _ rfl (.tmp 68) (.tmp 69) 47 rfl w.heap.size 5 (.int .u8 0) 1 1 Try.underlying47 infoU8 rfl (by decide) _ acc2.length _ rfl HO3.out #[.int .u8 0] 1 rfl rfl (by simp [Value.oneCell']) (by decide) (by omega) (by decide) hsz3 ?_; intro g4 c4 w4 hown hg _; have HB4 := Lib.hid (Below_own HB3.out HO3.out hg (Nat.le_refl _) hsz3); have HO4 := Lib.hid hown; have hsz4 := HB4.out.size; clear hown hg))
            go_roundw
            case rel => exact ⟨z - 4, _, acc2 ++ [0], by go_num, rfl, by omega, by omega, by simp; omega, Lib.hid (by rw [List.map_append, List.length_append]; exact HO4.out), HB4, Lib.hid (by
              rw [← HE3.out, zeros_step hz, List.append_assoc]
              rfl)⟩
            case measure => simp [intOf]; omega
          · go_wp2_with fail
            go_ret
            exact wait_end HO3.out HB3.out (by rw [← HE3.out, show z / 4 = 0 by omega]; simp [zerosL])
      · have HR : Hid (m % 4 = 2) := Lib.hid hr
        have hge : 10 ≤ m ∧ m ≤ 28 := by have := HM.out; unfold MayN at this; omega
        obtain ⟨g0, g1⟩ := hge
        have rm : Int.tmod m 4 = 2 := by rw [Int.tmod_eq_emod_of_nonneg (by omega)]; exact hr
        obtain ⟨p, hp⟩ : ∃ p, p = x + (acc.length : Int) + 3 := ⟨_, rfl⟩
        have HP := Lib.hid hp
        have w1 : IntKind.i64.wrap (x + (acc.length : Int)) = x + (acc.length : Int) := by rw [IntKind.wrap_i64]; omega
        have w2 : IntKind.i64.wrap (x + (acc.length : Int) + 3) = p := by rw [IntKind.wrap_i64]; omega
        have tp : Int.tmod p 65536 = p % 65536 := by rw [Int.tmod_eq_emod_of_nonneg (by omega)]
        obtain ⟨y, hy⟩ : ∃ y, p % 65536 = y := ⟨_, rfl⟩
        have HY := Lib.hid hy
        rw [hy] at tp
        have ty1 : Int.tmod y 256 = y % 256 := by rw [Int.tmod_eq_emod_of_nonneg (by omega)]
        have ty2 : Int.tdiv y 256 = y / 256 := by rw [Int.tdiv_eq_ediv_of_nonneg (by omega)]
        have e1 : IntKind.u8.wrap (y % 256) = y % 256 := by rw [IntKind.wrap_u8]; omega
        have e2 : IntKind.u8.wrap (y / 256) = y / 256 := by rw [IntKind.wrap_u8]; omega
        have hnx : nextL (x + (acc.length : Int)) = [195, y % 256, y / 256] := by unfold nextL; rw [← hp, ← hy]; simp; omega
        have HNX := Lib.hid hnx
        have y0 : 0 ≤ y := by omega
        have y1 : y ≤ 65535 := by omega
        have wy : IntKind.i64.wrap (y / 256) = y / 256 := by rw [IntKind.wrap_i64]; omega
        clear hp hy hnx
        have rm2 : Int.tmod (m - 10) 4 = 0 := by rw [Int.tmod_eq_emod_of_nonneg (by omega)]; omega
        clear hr
        go_wp2_with (first
          | (at_builtin; refine wpList_appL _ rfl (.tmp 47) (.tmp 54) 47 rfl w.heap.size 5 (.int .u8 0) 1 1 Try.underlying47 infoU8 rfl (by decide) _ acc.length _ rfl HO.out #[.int .u8 195, .int .u8 (y % 256), .int .u8 (y / 256)] 3 rfl rfl (by simp [Value.oneCell']) (by decide) (by omega) (by decide) hsz ?_; intro g1 c1 w1 hown hg _; have HB1 := Lib.hid (Below_own HB.out HO.out hg (Nat.le_refl _) hsz); have HO1 := Lib.hid hown; have hsz1 := HB1.out.size; clear hown hg))
        go_loopw [0, 5] (fun nv bv u => ∃ (z : Int) (v : Value) (acc2 : List Int), nv = .int .i64 z ∧ v = bv ∧ 0 ≤ z ∧ z ≤ 30 ∧ acc2.length + z.toNat ≤ 1100000 ∧ Hid (u.ownsRow w.heap.size 5 1 v acc2.length (acc2.map (.int .u8 ·))) ∧ Hid (Below w.heap.size w u) ∧ Hid (acc2 ++ zerosL (z / 4) = waitL n x)) (fun nv _ _ => (intOf nv).toNat)
        case atStart => exact ⟨_, _, (acc ++ [195, y % 256, y / 256]), rfl, rfl, by omega, by omega, by simp; omega, Lib.hid (by simpa using HO1.out), HB1, Lib.hid (by
          rw [HWT.out, HEE.out.1, ← HEE.out.2]
          unfold tailL
          rw [if_neg (by rw [HR.out]; decide), if_pos HR.out]
          rw [HNX.out]
          simp)⟩
        case round =>
          obtain ⟨z, v, acc2, rfl, rfl, z0, z1, hla, HO3, HB3, HE3⟩ := hrel
          have hsz3 := HB3.out.size
          by_cases hz : 4 ≤ z
          · go_wp2_with (first
              | (at_builtin; refine wpList_appL _ rfl (.tmp 68) (.tmp 69) 47 rfl w.heap.size 5 (.int .u8 0) 1 1 Try.underlying47 infoU8 rfl (by decide) _ acc2.length _ rfl HO3.out #[.int .u8 0] 1 rfl rfl (by simp [Value.oneCell']) (by decide) (by omega) (by decide) hsz3 ?_; intro g4 c4 w4 hown hg _; have HB4 := Lib.hid (Below_own HB3.out HO3.out hg (Nat.le_refl _) hsz3); have HO4 := Lib.hid hown; have hsz4 := HB4.out.size; clear hown hg))
            go_roundw
            case rel => exact ⟨z - 4, _, acc2 ++ [0], by go_num, rfl, by omega, by omega, by simp; omega, Lib.hid (by rw [List.map_append, List.length_append]; exact HO4.out), HB4, Lib.hid (by
              rw [← HE3.out, zeros_step hz, List.append_assoc]
              rfl)⟩
            case measure => simp [intOf]; omega
          · go_wp2_with fail
            go_ret
            exact wait_end HO3.out HB3.out (by rw [← HE3.out, show z / 4 = 0 by omega]; simp [zerosL])
      · have HR : Hid (m % 4 = 3) := Lib.hid hr
        have hge : 7 ≤ m ∧ m ≤ 28 := by have := HM.out; unfold MayN at this; omega
        obtain ⟨g0, g1⟩ := hge
        have rm : Int.tmod m 4 = 3 := by rw [Int.tmod_eq_emod_of_nonneg (by omega)]; exact hr
        clear hr
        go_wp2_with (first
          | (at_builtin; refine wpList_appL _ rfl (.tmp 61) (.tmp 62) 47 rfl w.heap.size 5 (.int .u8 0) 1 1 Try.underlying47 infoU8 rfl (by decide) _ acc.length _ rfl HO.out #[.int .u8 6, .int .u8 0] 2 rfl rfl (by simp [Value.oneCell']) (by decide) (by omega) (by decide) hsz ?_; intro g2 c2 w2 hown hg _; have HB2 := Lib.hid (Below_own HB.out HO.out hg (Nat.le_refl _) hsz); have HO2 := Lib.hid hown; have hsz2 := HB2.out.size; clear hown hg))
        go_loopw [0, 5] (fun nv bv u => ∃ (z : Int) (v : Value) (acc2 : List Int), nv = .int .i64 z ∧ v = bv ∧ 0 ≤ z ∧ z ≤ 30 ∧ acc2.length + z.toNat ≤ 1100000 ∧ Hid (u.ownsRow w.heap.size 5 1 v acc2.length (acc2.map (.int .u8 ·))) ∧ Hid (Below w.heap.size w u) ∧ Hid (acc2 ++ zerosL (z / 4) = waitL n x)) (fun nv _ _ => (intOf nv).toNat)
        case atStart => exact ⟨_, _, (acc ++ [6, 0]), rfl, rfl, by omega, by omega, by simp; omega, Lib.hid (by simpa using HO2.out), HB2, Lib.hid (by
          rw [HWT.out, HEE.out.1, ← HEE.out.2]
          unfold tailL
          rw [if_neg (by rw [HR.out]; decide), if_neg (by rw [HR.out]; decide), if_pos HR.out]
          simp)⟩
        case round =>
          obtain ⟨z, v, acc2, rfl, rfl, z0, z1, hla, HO3, HB3, HE3⟩ := hrel
          have hsz3 := HB3.out.size
          by_cases hz : 4 ≤ z
          · go_wp2_with (first
              | (at_builtin; refine wpList_appL _ rfl (.tmp 68) (.tmp 69) 47 rfl w.heap.size 5 (.int .u8 0) 1 1 Try.underlying47 infoU8 rfl (by decide) _ acc2.length _ rfl HO3.out #[.int .u8 0] 1 rfl rfl (by simp [Value.oneCell']) (by decide) (by omega) (by decide) hsz3 ?_; intro g4 c4 w4 hown hg _; have HB4 := Lib.hid (Below_own HB3.out HO3.out hg (Nat.le_refl _) hsz3); have HO4 := Lib.hid hown; have hsz4 := HB4.out.size; clear hown hg))
            go_roundw
            case rel => exact ⟨z - 4, _, acc2 ++ [0], by go_num, rfl, by omega, by omega, by simp; omega, Lib.hid (by rw [List.map_append, List.length_append]; exact HO4.out), HB4, Lib.hid (by
              rw [← HE3.out, zeros_step hz, List.append_assoc]
              rfl)⟩
            case measure => simp [intOf]; omega
          · go_wp2_with fail
            go_ret
            exact wait_end HO3.out HB3.out (by rw [← HE3.out, show z / 4 = 0 by omega]; simp [zerosL])
end Go.Proofs.Ytoejmjhfecppcaa
