/- The law ReelGaps: its own body. -/
import Derived.Test.YtoejmjhfecppcaaRelC
namespace Go.Proofs.Ytoejmjhfecppcaa
set_option linter.unusedSimpArgs false
set_option linter.unusedVariables false
open Go.RowKit
theorem gapS_get (a : Int) (l : List Int) (n k : Nat) (hk : k < n) : (gapS a l n)[k]? = some (l.getD k 0 - atS a l k) := by
  induction n with
  | zero => omega
  | succ n ih =>
    show (gapS a l n ++ [l.getD n 0 - atS a l n])[k]? = _
    by_cases e : k = n
    · subst e
      rw [List.getElem?_append_right (by rw [gapS_len]; omega), gapS_len]
      simp
    · rw [List.getElem?_append_left (by rw [gapS_len]; omega)]
      exact ih (by omega)
theorem own_slice {w : World} {base n : Nat} {e : TypeId} {v : Value} {xs : List Value} (h : w.ownsRow base e 1 v n xs) : ∃ (B : Option Addr) (c : Nat), v = .slice B n c ∧ Cells w B xs := by
  rcases h.2 with ⟨rfl, rfl⟩ | ⟨g, c, cur, rfl, _⟩
  · have hx : xs = [] := List.eq_nil_of_length_eq_zero (by simpa using h.1)
    subst hx
    exact ⟨none, 0, rfl, fun i v hi => by simp at hi⟩
  · exact ⟨_, c, rfl, fun i v hi => ⟨_, rfl, h.cells (g := g) rfl i v hi⟩⟩
set_option maxHeartbeats 8000000 in
theorem reelGaps_any (a : Int) (A : Option Addr) (n cap : Nat) (l : List Int) (w : World) (ha : U64 a) (hl : Ints w A .u64 l) (hn : l.length = n) (hu : ∀ x ∈ l, U64 x) (hcap : n ≤ cap) :
    Calls Try.prog 4 #[.int .u64 a, .slice A n cap] w (Yes w) := by
  have HLV := Lib.hid lives26
  by_cases k1 : (1000 : Int) < n
  · clear hl hn ha hu
    go_enter Try.func4, Try.ntmps4
    go_wp2_with (first
      | (go_at_call 11; refine (HLV.out _).mono ?_; rintro e w3 ⟨rfl, hb3⟩))
    go_ret
    exact ⟨rfl, hb3⟩
  have hn1 : n ≤ 1000 := by omega
  have HG := Lib.hid (gaps_any a A n cap l w ha hl hn hu hn1 hcap)
  have HL := Lib.hid hl; have HN := Lib.hid hn
  have HU := Lib.hid (fun k => atS_u64 ha hu k)
  have HLU := Lib.hid hu
  clear hl hn ha hu
  go_enter Try.func4, Try.ntmps4
  go_wp2_with fail
  go_loopw [5, 6, 7] (fun r f i u => ∃ (k : Nat) (b : Bool) (y : Int), k ≤ n ∧ i = .int .i64 k ∧ f = .int .u64 y ∧ r = .bool b ∧ Hid (b = okS a l k) ∧ Hid (y = atS a l k) ∧ w = u) (fun _ _ i _ => n - (intOf i).toNat)
  case atStart => exact ⟨0, true, a, by omega, rfl, rfl, rfl, rfl, rfl, rfl⟩
  case round =>
    obtain ⟨k, b, y, hk, rfl, rfl, rfl, HK, HY, rfl⟩ := hrel
    by_cases hlt : k < n
    · obtain ⟨x, hx⟩ : ∃ x, l[k]? = some x := ⟨_, List.getElem?_eq_getElem (by rw [HN.out]; exact hlt)⟩
      obtain ⟨ad, rfl, hc⟩ := HL.out k (.int .u64 x) (by simp [hx])
      have hgd : l.getD k 0 = x := by simp [List.getD, hx]
      have HGD := Lib.hid hgd
      have HX := Lib.hid (HLU.out x (List.mem_of_getElem? hx))
      have hat := HU.out k
      rw [← HY.out] at hat
      have HAT := Lib.hid hat
      have HYX : Hid (x = atS a l (k + 1)) := by show _ = _; rw [atS_succ]; exact HGD.out.symm
      have HKX : Hid (okS a l (k + 1) = (b && stepS y x)) := by
        show (okS a l k && stepS (atS a l k) (l.getD k 0)) = _
        rw [← HK.out, ← HY.out, HGD.out]
      clear hx hgd hat
      cases b with
      | false =>
        go_wp2_with fail
        go_roundw
        case rel => exact ⟨k + 1, false, x, by omega, by go_num, rfl, rfl, HKX.out.symm, HYX, trivial⟩
        case measure => simp [intOf]; omega
      | true =>
        by_cases h1 : y < x
        · have e1 := sub_u64 HAT.out HX.out h1
          by_cases h3 : x - y ≤ 4294967295
          · have HS : Hid (true = okS a l (k + 1)) := by show _ = _; rw [HKX.out]; simp [stepS]; omega
            go_wp2_with fail
            go_roundw
            case rel => exact ⟨k + 1, true, x, by omega, by go_num, rfl, rfl, HS, HYX, trivial⟩
            case measure => simp [intOf]; omega
          · have HS : Hid (false = okS a l (k + 1)) := by show _ = _; rw [HKX.out]; simp [stepS]; omega
            go_wp2_with fail
            go_roundw
            case rel => exact ⟨k + 1, false, x, by omega, by go_num, rfl, rfl, HS, HYX, trivial⟩
            case measure => simp [intOf]; omega
        · have HS : Hid (false = okS a l (k + 1)) := by show _ = _; rw [HKX.out]; simp [stepS]; omega
          go_wp2_with fail
          go_roundw
          case rel => exact ⟨k + 1, false, x, by omega, by go_num, rfl, rfl, HS, HYX, trivial⟩
          case measure => simp [intOf]; omega
    · obtain rfl : k = n := by omega
      cases b with
      | false =>
        have HG2 : Hid (Calls Try.prog 15 #[.int .u64 a, .slice A k cap] w fun e w' => e = .returned (.tuple #[.slice none 0 0, .int .i64 5]) ∧ Below w.heap.size w w') := by
          exact HG.out.mono fun e w' h => by
            unfold Gaps at h
            rw [if_neg (by rw [← HK.out]; decide)] at h
            exact h
        go_wp2_with (first
          | (go_at_call 15; refine HG2.out.mono ?_; rintro e w2 ⟨rfl, hb2⟩)
          | (go_at_call 11; refine (HLV.out _).mono ?_; rintro e w3 ⟨rfl, hb3⟩))
        go_ret
        exact ⟨rfl, hb2.trans (hb3.mono hb2.size)⟩
      | true =>
        have HG2 : Hid (Calls Try.prog 15 #[.int .u64 a, .slice A k cap] w fun e w' => ∃ (B : Option Addr) (c : Nat), e = .returned (.tuple #[.slice B k c, .int .i64 0]) ∧ Cells w' B ((gapS a l k).map (.int .u32 ·)) ∧ Below w.heap.size w w') := by
          exact HG.out.mono fun e w' h => by
            unfold Gaps at h
            rw [if_pos HK.out.symm] at h
            obtain ⟨v, h1, h2, h3⟩ := h
            obtain ⟨B, c, rfl, hc⟩ := own_slice h2
            exact ⟨B, c, h1, hc, h3⟩
        go_wp2_with (first
          | (go_at_call 15; refine HG2.out.mono ?_; rintro e w2 ⟨B, c2, rfl, hcs, hb2⟩; have HCS := Lib.hid hcs; have HB2 := Lib.hid hb2; clear hcs hb2))
        go_loopw [6, 10] (fun f i u => ∃ (j : Nat) (z : Int), j ≤ k ∧ i = .int .i64 j ∧ f = .int .u64 z ∧ Hid (z = atS a l j) ∧ w2 = u) (fun _ i _ => k - (intOf i).toNat)
        case atStart => exact ⟨0, a, by omega, rfl, rfl, rfl, rfl⟩
        case round =>
          obtain ⟨j, z, hj, rfl, rfl, HZ, rfl⟩ := hrel
          by_cases hlt2 : j < k
          · obtain ⟨x, hx⟩ : ∃ x, l[j]? = some x := ⟨_, List.getElem?_eq_getElem (by rw [HN.out]; exact hlt2)⟩
            obtain ⟨ad, rfl, hc0⟩ := HL.out j (.int .u64 x) (by simp [hx])
            have hc := (HB2.out.cell (block_lt_of_cell hc0)).trans hc0
            have hgd : l.getD j 0 = x := by simp [List.getD, hx]
            have hgap := gapS_get a l k j hlt2
            rw [hgd, ← HZ.out] at hgap
            obtain ⟨bd, rfl, hd⟩ := HCS.out j (.int .u32 (x - z)) (by simp [hgap])
            have hst : okS a l (j + 1) = true := okS_less a l k HK.out.symm (j + 1) (by omega)
            simp only [okS, Bool.and_eq_true] at hst
            have hst := hst.2
            rw [← HZ.out, hgd] at hst
            simp [stepS] at hst
            obtain ⟨g, hg⟩ : ∃ g, g = x - z := ⟨_, rfl⟩
            rw [← hg] at hd
            have ux := HLU.out x (List.mem_of_getElem? hx)
            have e1 : IntKind.u64.wrap g = g := by obtain ⟨u0, u1⟩ := ux; rw [IntKind.wrap_u64]; omega
            have e2 : IntKind.u64.wrap (z + g) = x := by obtain ⟨u0, u1⟩ := ux; rw [IntKind.wrap_u64]; omega
            have g0 : 0 ≤ g := by omega
            have g1 : g ≤ 4294967295 := by omega
            have HZX : Hid (x = atS a l (j + 1)) := by show _ = _; rw [atS_succ]; exact hgd.symm
            clear hx hgd hgap hst hg ux hc0
            go_wp2_with fail
            go_roundw
            case rel => exact ⟨j + 1, x, by omega, by go_num, rfl, HZX, trivial⟩
            case measure => simp [intOf]; omega
          · go_wp2_with (first
              | (go_at_call 11; refine (HLV.out _).mono ?_; rintro e w3 ⟨rfl, hb3⟩))
            go_ret
            exact ⟨rfl, HB2.out.trans (hb3.mono HB2.out.size)⟩
end Go.Proofs.Ytoejmjhfecppcaa
