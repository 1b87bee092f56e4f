/- squealref21.Times; same. -/
import Derived.Test.YtbemlmpajnklpaaRleC
namespace Go.Proofs.Ytbemlmpajnklpaa
set_option linter.unusedSimpArgs false
set_option linter.unusedVariables false
open Go.RowKit
/-- what the document says of the times -/
def TimesP (rate : Int) (l : List Int) (w : World) (e : Ending) (w' : World) : Prop :=
  if Rl.scan 274877906944 l = true then NoListP 5 w e w' else ListP (Rl.steps rate 0 0 l) w e w'
set_option maxHeartbeats 1000000 in
theorem refTimes_rate (A : Option Addr) (n c : Nat) (rate : Int) (w : World) (hr : rate < 1 ∨ 16777215 < rate) :
    Calls Try.prog 7 #[.slice A n c, .int .i64 rate] w (NoListP 5 w) := by
  rcases hr with hr | hr
  · go_enter Try.func7, Try.ntmps7
    go_wp2_with fail
    go_ret2
    exact ⟨rfl, Below.refl _ _⟩
  · go_enter Try.func7, Try.ntmps7
    go_wp2_with fail
    go_ret2
    exact ⟨rfl, Below.refl _ _⟩
set_option maxRecDepth 100000 in
set_option maxHeartbeats 4000000 in
theorem refTimes_ok (A : Option Addr) (n c : Nat) (rate : Int) (l : List Int) (w : World) (hl : Ints w A .i64 l) (hn : l.length = n) (hn1 : n ≤ 1000) (hr1 : 1 ≤ rate) (hr2 : rate ≤ 16777215) :
    Calls Try.prog 7 #[.slice A n c, .int .i64 rate] w (TimesP rate l w) := by
  have HL := Lib.hid hl; have HN := Lib.hid hn
  obtain ⟨R, hR⟩ : ∃ R, R = Rl.steps rate 0 0 l := ⟨_, rfl⟩
  obtain ⟨S, hS⟩ : ∃ S, S = Rl.scan 274877906944 l := ⟨_, rfl⟩
  unfold TimesP
  rw [← hR, ← hS]
  have HRE := Lib.hid hR; have HSE := Lib.hid hS
  clear hl hn hR hS
  go_enter Try.func7, Try.ntmps7
  go_wp2_with fail
  go_loopw [6, 7, 8, 9] (fun v nn ww i wr => ∃ (k : Nat) (N W : Int) (v' : Value) (D : List Int), k ≤ n ∧ i = .int .i64 k ∧ nn = .int .i64 N ∧ ww = .int .i64 W ∧ v' = v ∧ 0 ≤ N ∧ N ≤ 274877906944 ∧ 0 ≤ W ∧ W ≤ 962072674304000000 ∧ Hid (wr.ownsRow w.heap.size 3 1 v' k (D.map (.int .i64 ·))) ∧ Hid (Below w.heap.size w wr) ∧ Hid (R = D ++ Rl.steps rate N W (l.drop k)) ∧ Hid (D.length = k) ∧ Hid (S = Rl.scan (274877906944 - N) (l.drop k))) (fun _ _ _ i _ => n - (intOf i).toNat)
  case atStart => exact ⟨0, 0, 0, _, [], by omega, rfl, rfl, rfl, rfl, by omega, by omega, by omega, by omega, World.ownsRow_nil _ _ _ _, Below.refl _ _, by show _ = _; rw [HRE.out]; rfl, rfl, HSE.out⟩
  case round =>
    obtain ⟨k, N, W, v, D, hk, rfl, rfl, rfl, rfl, N0, N1, W0, W1, HO, HB, HD, HDL, HS⟩ := hrel
    have hsz := HB.out.size
    by_cases hlt : k < n
    · obtain ⟨x, hx⟩ : ∃ x, l[k]? = some x := ⟨_, List.getElem?_eq_getElem (by rw [HN.out]; exact hlt)⟩
      obtain ⟨ad, rfl, hc0⟩ := HL.out k (.int .i64 x) (by simp [hx])
      have hc := (HB.out.cell (block_lt_of_cell hc0)).trans hc0
      have hdrop : l.drop k = x :: l.drop (k + 1) := by
        rw [List.drop_eq_getElem_cons (by rw [HN.out]; exact hlt)]
        rw [List.getElem?_eq_getElem (by rw [HN.out]; exact hlt)] at hx
        injection hx with hx
        rw [hx]
      have hs := HS.out
      rw [hdrop] at hs
      have HDR := Lib.hid hdrop; have HSS := Lib.hid hs
      clear hx hc0 hdrop hs
      by_cases hbad : Rl.badK (274877906944 - N) x = true
      · have HT : Hid (S = true) := by show _ = _; rw [HSS.out]; simp [Rl.scan, hbad]
        by_cases x0 : x < 0
        · clear hbad
          go_wp2_with fail
          go_ret2
          exact ⟨rfl, HB.out⟩
        · by_cases x1 : 4294967295 < x
          · clear hbad
            go_wp2_with fail
            go_ret2
            exact ⟨rfl, HB.out⟩
          · have x2 : 274877906944 < N + x := by
              unfold Rl.badK at hbad
              have e : Rl.clamp x = x := by unfold Rl.clamp; rw [if_neg x0, if_neg x1]
              rw [e] at hbad
              simp at hbad
              omega
            clear hbad
            go_wp2_with fail
            go_ret2
            exact ⟨rfl, HB.out⟩
      · have hb2 : 0 ≤ x ∧ x ≤ 4294967295 ∧ x ≤ 274877906944 - N ∧ Rl.clamp x = x := by
          unfold Rl.badK at hbad
          simp at hbad
          obtain ⟨a, b, c⟩ := hbad
          have e : Rl.clamp x = x := by unfold Rl.clamp; rw [if_neg (by omega), if_neg (by omega)]
          rw [e] at c
          exact ⟨a, b, by omega, e⟩
        obtain ⟨x0, x1, x2, x3⟩ := hb2
        have HS2 : Hid (S = Rl.scan (274877906944 - (N + x)) (l.drop (k + 1))) := by
          show _ = _
          have hbf : Rl.badK (274877906944 - N) x = false := by simpa using hbad
          rw [HSS.out]
          simp only [Rl.scan]
          rw [hbf, x3, show 274877906944 - (N + x) = 274877906944 - N - x by omega]
          rfl
        clear hbad x3
        obtain ⟨F, hF⟩ : ∃ F, F = (N + x) * 3500000 / rate := ⟨_, rfl⟩
        have HD2 : Hid (R = D ++ ((F - W) :: Rl.steps rate (N + x) F (l.drop (k + 1)))) := by
          show _ = _
          rw [HD.out, HDR.out, hF]
          rfl
        have hF0 : 0 ≤ F ∧ F ≤ (N + x) * 3500000 := by rw [hF]; exact Rl.div_le _ _ (by omega) hr1
        obtain ⟨F0, F1⟩ := hF0
        have t1 : ((N + x) * 3500000).tdiv rate = F := by rw [hF]; exact Int.tdiv_eq_ediv_of_nonneg (by omega)
        have rz : (rate == 0) = false := by simp; omega
        have w1 : IntKind.i64.wrap F = F := by rw [IntKind.wrap_i64]; omega
        have w2 : IntKind.i64.wrap ((N + x) * 3500000) = (N + x) * 3500000 := by rw [IntKind.wrap_i64]; omega
        have w8 : IntKind.i64.wrap (F - W) = F - W := by rw [IntKind.wrap_i64]; omega
        have XF := Lib.hid hF
        clear hF
        go_wp2_with (first
          | (at_builtin; refine wpList_appL _ rfl (.tmp 47) (.tmp 51) 22 rfl w.heap.size 3 (.int .i64 0) 1 8 Try.underlying22 infoInt rfl (by decide) v k _ rfl HO.out #[.int .i64 (F - W)] 1 rfl rfl (by simp [Value.oneCell']) (by decide) (by omega) (by decide) hsz ?_; intro g2 c2 w4 hown2 hg2 _; have HB4 := Lib.hid (Below_own HB.out HO.out hg2 (Nat.le_refl _) hsz); have HO4 := Lib.hid hown2; clear hown2 hg2))
        go_roundw
        case rel => exact ⟨k + 1, N + x, F, _, D ++ [F - W], by omega, by go_num, rfl, rfl, rfl, by omega, by omega, F0, by omega, by show _; rw [List.map_append]; exact HO4.out, HB4.out, by show _ = _; rw [HD2.out]; simp, by show _ = _; rw [List.length_append, HDL.out]; rfl, HS2.out⟩
        case measure => simp [intOf]; omega
    · obtain rfl : k = n := by omega
      have HF : Hid (R = D) := by
        show _ = _
        rw [HD.out, List.drop_of_length_le (by rw [HN.out]; omega)]
        simp [Rl.steps]
      have HT : Hid (¬ S = true) := by
        show ¬ _
        rw [HS.out, List.drop_of_length_le (by rw [HN.out]; omega)]
        simp [Rl.scan]
      go_wp2_with fail
      go_ret2
      obtain ⟨B, c', rfl, hcells, hlc⟩ := own_slice2 HO.out
      rw [HF.out]
      exact ⟨B, c', by rw [HDL.out]; rfl, by rw [HDL.out]; exact hlc, hcells, HB.out⟩
set_option maxHeartbeats 1000000 in
theorem same_any (A B : Option Addr) (n c d : Nat) (l : List Int) (w : World) (ha : Ints w A .i64 l) (hb : Ints w B .i64 l) (hn : l.length = n) (hn1 : n ≤ 1000) :
    Calls Try.prog 8 #[.slice A n c, .slice B n d] w fun e w' => e = .returned (.bool true) ∧ Drew w w' := by
  have HA := Lib.hid ha; have HB := Lib.hid hb; have HN := Lib.hid hn
  clear ha hb hn
  go_enter Try.func8, Try.ntmps8
  go_wp2_with fail
  go_loopw [5] (fun i wr => ∃ (k q : Nat), k ≤ n ∧ i = .int .i64 k ∧ wr = w.drewN q) (fun i _ => n - (intOf i).toNat)
  case atStart => exact ⟨0, 0, by omega, rfl, rfl⟩
  case round =>
    obtain ⟨k, q, hk, rfl, rfl⟩ := hrel
    by_cases hlt : k < n
    · obtain ⟨x, hx⟩ : ∃ x, l[k]? = some x := ⟨_, List.getElem?_eq_getElem (by rw [HN.out]; exact hlt)⟩
      obtain ⟨ad, rfl, hc⟩ := HA.out k (.int .i64 x) (by simp [hx])
      obtain ⟨bd, rfl, hd⟩ := HB.out k (.int .i64 x) (by simp [hx])
      go_wp2_with fail
      go_quiet (fail)
      go_wp2_with fail
      go_roundw
      case rel => exact ⟨k + 1, _, by omega, by go_num, rfl⟩
      case measure => simp [intOf]; omega
    · obtain rfl : k = n := by omega
      go_wp2_with fail
      go_ret
      exact ⟨rfl, _, rfl⟩
end Go.Proofs.Ytbemlmpajnklpaa
