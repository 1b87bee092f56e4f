/- squealref07: Memory, Args; squealref08: Plain, More, Time. -/
import Derived.Test.YtfhegloobldokaaMicR
import Derived.Test.YtfhegloobldokaaMicO
namespace Go.Proofs.Ytfhegloobldokaa
set_option linter.unusedSimpArgs false
set_option linter.unusedVariables false
open Go.RowKit
namespace Mi
def mem7 (c : Int) : Bool := hasS (plain7 c) [40, 104, 108, 41]
def args7 (c : Int) : Int := if hasS (plain7 c) [87] = true then (if c = 221 ∨ c = 237 ∨ c = 253 then 0 else 2) else if hasS (plain7 c) [78] = true ∨ hasS (plain7 c) [69] = true then 1 else 0
def plain8 (c : Int) : Int := if c < 64 then lowL.getD c.toNat 0 else if 192 ≤ c then highL.getD (c - 192).toNat 0 else if mem7 c = true then 7 else 4
def more8 (c : Int) : Int :=
  if 160 ≤ c ∧ c < 192 ∧ c % 8 < 4 then (if 176 ≤ c then 21 else 16) else if c < 64 ∨ 128 ≤ c then 8 else if c = 103 ∨ c = 111 then 18 else if c = 71 ∨ c = 79 ∨ c = 87 ∨ c = 95 then 9 else
  if c % 8 = 2 then 15 else if c % 8 = 3 then 20 else if c % 8 = 5 then 14 else if c % 8 < 2 then 12 else 8
end Mi
set_option maxHeartbeats 2000000 in
theorem mem7_any (c : Int) (w : World) (h0 : 0 ≤ c) (h1 : c ≤ 255) : Calls Try.prog 38 #[.int .u8 c] w fun e w' => e = .returned (.bool (Mi.mem7 c)) ∧ Below w.heap.size w w' := by
  obtain ⟨M, hM⟩ : ∃ M, M = Mi.mem7 c := ⟨_, rfl⟩
  rw [← hM]
  unfold Mi.mem7 at hM
  have hl := Mi.plain7_le c h0 h1
  have hP := fun w => plain7_any c w h0 h1
  have hH := fun w => has_any (Mi.plain7 c) [40, 104, 108, 41] w (by omega) (by decide) (by decide)
  rw [← hM] at hH
  obtain ⟨t, ht⟩ : ∃ t, t = Mi.plain7 c := ⟨_, rfl⟩
  rw [← ht] at hH hl
  simp only [← ht] at hP
  have HP := Lib.hid hP; have HH := Lib.hid hH
  clear hP hH hM ht
  go_enter Try.func38, Try.ntmps38
  go_wp2_with (first
    | (go_at_call 60; refine (HP.out _).mono ?_; rintro e w' ⟨rfl, hb⟩)
    | (go_at_call 61; refine (HH.out _).mono ?_; rintro e w' ⟨rfl, rfl⟩))
  go_ret
  exact ⟨rfl, hb⟩
set_option maxHeartbeats 2000000 in
theorem args7_any (c : Int) (w : World) (h0 : 0 ≤ c) (h1 : c ≤ 255) : Calls Try.prog 37 #[.int .u8 c] w fun e w' => e = .returned (.int .i64 (Mi.args7 c)) ∧ Below w.heap.size w w' := by
  obtain ⟨R, hR⟩ : ∃ R, R = Mi.args7 c := ⟨_, rfl⟩
  rw [← hR]
  unfold Mi.args7 at hR
  have hl := Mi.plain7_le c h0 h1
  have hP := fun w => plain7_any c w h0 h1
  have hW := fun w => has_any (Mi.plain7 c) [87] w (by omega) (by decide) (by decide)
  have hN := fun w => has_any (Mi.plain7 c) [78] w (by omega) (by decide) (by decide)
  have hE := fun w => has_any (Mi.plain7 c) [69] w (by omega) (by decide) (by decide)
  obtain ⟨W, hw⟩ : ∃ W, W = Mi.hasS (Mi.plain7 c) [87] := ⟨_, rfl⟩
  obtain ⟨N, hn⟩ : ∃ N, N = Mi.hasS (Mi.plain7 c) [78] := ⟨_, rfl⟩
  obtain ⟨E, he⟩ : ∃ E, E = Mi.hasS (Mi.plain7 c) [69] := ⟨_, rfl⟩
  simp only [← hw, ← hn, ← he] at hW hN hE hR
  obtain ⟨t, ht⟩ : ∃ t, t = Mi.plain7 c := ⟨_, rfl⟩
  rw [← ht] at hl
  simp only [← ht] at hP hW hN hE
  have HP := Lib.hid hP; have HW := Lib.hid hW; have HN := Lib.hid hN; have HE := Lib.hid hE
  clear hP hW hN hE hw hn he ht
  cases W with
  | true =>
    simp only [if_true] at hR
    by_cases k1 : c = 221
    · subst k1
      simp at hR; subst hR
      go_enter Try.func37, Try.ntmps37
      go_wp2_with (first
        | (go_at_call 60; refine (HP.out _).mono ?_; rintro e w' ⟨rfl, hb⟩)
        | (go_at_call 61; refine (HW.out _).mono ?_; rintro e w' ⟨rfl, rfl⟩))
      go_ret
      exact ⟨rfl, hb⟩
    by_cases k2 : c = 237
    · subst k2
      simp at hR; subst hR
      go_enter Try.func37, Try.ntmps37
      go_wp2_with (first
        | (go_at_call 60; refine (HP.out _).mono ?_; rintro e w' ⟨rfl, hb⟩)
        | (go_at_call 61; refine (HW.out _).mono ?_; rintro e w' ⟨rfl, rfl⟩))
      go_ret
      exact ⟨rfl, hb⟩
    by_cases k3 : c = 253
    · subst k3
      simp at hR; subst hR
      go_enter Try.func37, Try.ntmps37
      go_wp2_with (first
        | (go_at_call 60; refine (HP.out _).mono ?_; rintro e w' ⟨rfl, hb⟩)
        | (go_at_call 61; refine (HW.out _).mono ?_; rintro e w' ⟨rfl, rfl⟩))
      go_ret
      exact ⟨rfl, hb⟩
    rw [if_neg (by omega)] at hR; subst hR
    have b1 : (c == 221) = false := by simp [k1]
    have b2 : (c == 237) = false := by simp [k2]
    have b3 : (c == 253) = false := by simp [k3]
    go_enter Try.func37, Try.ntmps37
    go_wp2_with (first
      | (go_at_call 60; refine (HP.out _).mono ?_; rintro e w' ⟨rfl, hb⟩)
      | (go_at_call 61; refine (HW.out _).mono ?_; rintro e w' ⟨rfl, rfl⟩))
    go_ret
    exact ⟨rfl, hb⟩
  | false =>
    cases N <;> cases E
    all_goals
      simp at hR
      subst hR
      go_enter Try.func37, Try.ntmps37
      go_wp2_with (first
        | (go_at_call 60; refine (HP.out _).mono ?_; rintro e w' ⟨rfl, hb⟩)
        | (go_at_call_of 61 (Value.string { data := #[87] }); refine (HW.out _).mono ?_; rintro e w' ⟨rfl, rfl⟩)
        | (go_at_call_of 61 (Value.string { data := #[78] }); refine (HN.out _).mono ?_; rintro e w' ⟨rfl, rfl⟩)
        | (go_at_call_of 61 (Value.string { data := #[69] }); refine (HE.out _).mono ?_; rintro e w' ⟨rfl, rfl⟩))
      go_ret
      exact ⟨rfl, hb⟩
theorem int_at (l : List Int) (i : Nat) (hi : i < l.length) : (l.map (Value.int .i64 ·))[i]? = some (.int .i64 (l.getD i 0)) := by
  rw [List.getElem?_map, List.getElem?_eq_getElem hi]
  simp [List.getD_eq_getElem?_getD, List.getElem?_eq_getElem hi]
set_option maxHeartbeats 2000000 in
theorem plain8_any (c : Int) (w : World) (h0 : 0 ≤ c) (h1 : c ≤ 255) : Calls Try.prog 57 #[.int .u8 c] w fun e w' => e = .returned (.int .i64 (Mi.plain8 c)) ∧ Below w.heap.size w w' := by
  obtain ⟨R, hR⟩ : ∃ R, R = Mi.plain8 c := ⟨_, rfl⟩
  rw [← hR]
  unfold Mi.plain8 at hR
  by_cases k1 : c < 64
  · obtain ⟨n, rfl⟩ : ∃ n : Nat, c = n := ⟨c.toNat, by omega⟩
    rw [if_pos k1, Int.toNat_natCast] at hR
    have HV := Lib.hid (int_at Mi.lowL n (by simp [Mi.lowL]; omega))
    rw [← hR] at HV
    have HL := Lib.hid (show (Mi.lowL.map (Value.int .i64 ·)).length = 64 from rfl)
    clear hR
    go_enter Try.func57, Try.ntmps57
    go_wp2_with (first
      | (go_at_call 86; refine (low_table _).mono ?_; intro e w' ht; obtain ⟨cc, ad, rfl, hc, hb⟩ := table_cell ht n _ HV.out; rw [HL.out]; clear ht))
    all_goals go_ret
    exact ⟨rfl, hb⟩
  rw [if_neg k1] at hR
  by_cases k2 : 192 ≤ c
  · obtain ⟨n, rfl⟩ : ∃ n : Nat, c = n + 192 := ⟨(c - 192).toNat, by omega⟩
    rw [if_pos k2, show ((n : Int) + 192 - 192).toNat = n from by omega] at hR
    have HV := Lib.hid (int_at Mi.highL n (by simp [Mi.highL]; omega))
    rw [← hR] at HV
    have HL := Lib.hid (show (Mi.highL.map (Value.int .i64 ·)).length = 64 from rfl)
    clear hR
    go_enter Try.func57, Try.ntmps57
    go_wp2_with (first
      | (go_at_call 87; refine (high_table _).mono ?_; intro e w' ht; obtain ⟨cc, ad, rfl, hc, hb⟩ := table_cell ht n _ HV.out; rw [HL.out]; clear ht))
    all_goals go_ret
    exact ⟨rfl, hb⟩
  rw [if_neg k2] at hR
  have hM := fun w => mem7_any c w h0 h1
  obtain ⟨M, hm⟩ : ∃ M, M = Mi.mem7 c := ⟨_, rfl⟩
  simp only [← hm] at hM hR
  have HM := Lib.hid hM
  clear hM hm
  cases M
  all_goals
    simp at hR
    subst hR
    go_enter Try.func57, Try.ntmps57
    go_wp2_with (first
      | (go_at_call 38; refine (HM.out _).mono ?_; rintro e w' ⟨rfl, hb⟩))
    go_ret
    exact ⟨rfl, hb⟩
set_option maxRecDepth 100000 in
set_option maxHeartbeats 4000000 in
theorem more8_any (c : Int) (w : World) (h0 : 0 ≤ c) (h1 : c ≤ 255) : Calls Try.prog 59 #[.int .u8 c] w fun e w' => e = .returned (.int .i64 (Mi.more8 c)) ∧ Below w.heap.size w w' := by
  obtain ⟨R, hR⟩ : ∃ R, R = Mi.more8 c := ⟨_, rfl⟩
  rw [← hR]
  have HR := Lib.hid hR
  clear hR
  have tm : Int.tmod c 8 = c % 8 := Int.tmod_eq_emod_of_nonneg h0
  have hz : c % 8 = 0 ∨ c % 8 = 1 ∨ c % 8 = 2 ∨ c % 8 = 3 ∨ c % 8 = 4 ∨ c % 8 = 5 ∨ c % 8 = 6 ∨ c % 8 = 7 := by omega
  rcases hz with z | z | z | z | z | z | z | z
  all_goals
    go_enter Try.func59, Try.ntmps59
    go_wp2
    all_goals (go_ret; refine ⟨?_, by first | exact Below.refl _ _ | exact (Below.refl _ _).alloc (Nat.le_refl _) _⟩; rw [HR.out]; exact congrArg (fun x => Ending.returned (Value.int .i64 x)) (by unfold Mi.more8; simp_all; try omega))
end Go.Proofs.Ytfhegloobldokaa
