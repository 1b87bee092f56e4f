/- squealref07.Plain: the text of a plain code. -/
import Derived.Test.YtjkakmmhbciilaaOpC
import Derived.Deep.RegionWith
namespace Go.Proofs.Ytjkakmmhbciilaa
set_option linter.unusedSimpArgs false
set_option linter.unusedVariables false
open Go.RowKit
namespace Mi
def plain7 (c : Int) : List UInt8 :=
  if c < 64 then firstL.getD c.toNat [] else if 192 ≤ c then lastL.getD (c - 192).toNat [] else if c = 118 then [104, 97, 108, 116] else
  if c < 128 then [108, 100, 32] ++ regsL.getD (c / 8 % 8).toNat [] ++ [44] ++ regsL.getD (c % 8).toNat [] else opsL.getD (c / 8 % 8).toNat [] ++ regsL.getD (c % 8).toNat []
theorem plain7_len : ∀ n < 256, (plain7 (n : Nat)).length ≤ 20 := by decide +kernel
theorem plain7_le (c : Int) (h0 : 0 ≤ c) (h1 : c ≤ 255) : (plain7 c).length ≤ 20 := by
  obtain ⟨n, rfl⟩ : ∃ n : Nat, c = n := ⟨c.toNat, by omega⟩
  exact plain7_len n (by omega)
theorem regs_len : ∀ k < 8, (regsL.getD k []).length ≤ 4 := by decide +kernel
theorem ops_len : ∀ k < 8, (opsL.getD k []).length ≤ 6 := by decide +kernel
end Mi
theorem below_drew0 {w w' : World} (h : Below w.drew.heap.size w.drew w') : Below w.heap.size w w' := (Below.drew (Below.refl _ w)).trans h
theorem app_data (a b : List UInt8) : (⟨a.toArray⟩ : ByteArray) ++ ⟨b.toArray⟩ = ⟨(a ++ b).toArray⟩ := by
  apply ByteArray.ext
  simp [ByteArray.data_append]
/-- two cells of a table of texts -/
def Two (l : List (List UInt8)) (i j : Nat) (w : World) (e : Ending) (w' : World) : Prop := ∃ (ad : Addr) (cap : Nat), e = .returned (.slice (some ad) 8 cap) ∧ w'.cell? (ad.add i) = some (.string ⟨(l.getD i []).toArray⟩) ∧ w'.cell? (ad.add j) = some (.string ⟨(l.getD j []).toArray⟩) ∧ Below w.heap.size w w'
/-- one cell of a table -/
theorem table_cell {l : List Value} {w : World} {e : Ending} {w' : World} (h : Table l w e w') (i : Nat) (v : Value) (hv : l[i]? = some v) :
    ∃ c, ∃ ad : Addr, e = .returned (.slice (some ad) l.length c) ∧ w'.cell? (ad.add i) = some v ∧ Below w.heap.size w w' := by
  obtain ⟨c, rfl, hc, hb⟩ := h
  obtain ⟨ad, e, h⟩ := hc i v hv
  injection e with e
  subst e
  exact ⟨c, _, rfl, h, hb⟩
theorem str_at (l : List (List UInt8)) (i : Nat) (hi : i < l.length) : (l.map (fun s => Value.string ⟨s.toArray⟩))[i]? = some (.string ⟨(l.getD i []).toArray⟩) := by
  rw [List.getElem?_map, List.getElem?_eq_getElem hi]
  simp [List.getD_eq_getElem?_getD, List.getElem?_eq_getElem hi]
set_option maxHeartbeats 2000000 in
theorem plain7_any (c : Int) (w : World) (h0 : 0 ≤ c) (h1 : c ≤ 255) : Calls Try.prog 28 #[.int .u8 c] w fun e w' => e = .returned (.string ⟨(Mi.plain7 c).toArray⟩) ∧ Below w.heap.size w w' := by
  obtain ⟨R, hR⟩ : ∃ R, R = Mi.plain7 c := ⟨_, rfl⟩
  rw [← hR]
  unfold Mi.plain7 at hR
  by_cases k1 : c < 64
  · obtain ⟨n, rfl⟩ : ∃ n : Nat, c = n := ⟨c.toNat, by omega⟩
    rw [if_pos k1, Int.toNat_natCast] at hR
    have HV := Lib.hid (str_at Mi.firstL n (by simp [Mi.firstL]; omega))
    rw [← hR] at HV
    have HL := Lib.hid (show (Mi.firstL.map (fun s => Value.string ⟨s.toArray⟩)).length = 64 from rfl)
    clear hR
    go_enter Try.func28, Try.ntmps28
    go_wp2_with (first
      | (go_at_call 51; refine (first_table _).mono ?_; intro e w' ht; obtain ⟨cc, ad, rfl, hc, hb⟩ := table_cell ht n _ HV.out; rw [HL.out]; clear ht))
    all_goals go_ret
    exact ⟨rfl, hb⟩
  rw [if_neg k1] at hR
  by_cases k2 : 192 ≤ c
  · obtain ⟨n, rfl⟩ : ∃ n : Nat, c = n + 192 := ⟨(c - 192).toNat, by omega⟩
    rw [if_pos k2, show ((n : Int) + 192 - 192).toNat = n from by omega] at hR
    have HV := Lib.hid (str_at Mi.lastL n (by simp [Mi.lastL]; omega))
    rw [← hR] at HV
    have HL := Lib.hid (show (Mi.lastL.map (fun s => Value.string ⟨s.toArray⟩)).length = 64 from rfl)
    clear hR
    go_enter Try.func28, Try.ntmps28
    go_wp2_with (first
      | (go_at_call 52; refine (last_table _).mono ?_; intro e w' ht; obtain ⟨cc, ad, rfl, hc, hb⟩ := table_cell ht n _ HV.out; rw [HL.out]; clear ht))
    all_goals go_ret
    exact ⟨rfl, hb⟩
  rw [if_neg k2] at hR
  by_cases k3 : c = 118
  · subst k3
    rw [if_pos rfl] at hR
    subst hR
    go_enter Try.func28, Try.ntmps28
    go_wp2_with fail
    go_ret
    exact ⟨rfl, Below.refl _ _⟩
  rw [if_neg k3] at hR
  have k3b : (c == 118) = false := by simp [k3]
  obtain ⟨i, hi⟩ : ∃ i : Nat, c / 8 % 8 = i := ⟨(c / 8 % 8).toNat, by omega⟩
  obtain ⟨j, hj⟩ : ∃ j : Nat, c % 8 = j := ⟨(c % 8).toNat, by omega⟩
  have i8 : (i : Int) < 8 := by omega
  have j8 : (j : Int) < 8 := by omega
  rw [hi, hj, Int.toNat_natCast, Int.toNat_natCast] at hR
  have li := Mi.regs_len i (by omega)
  have lj := Mi.regs_len j (by omega)
  have lo := Mi.ops_len i (by omega)
  have HA : Hid (∀ w, Calls Try.prog 32 #[] w (Two Mi.regsL i j w)) := fun w => (regs_table w).mono fun e w' ht => by
    obtain ⟨cc, rfl, hc, hb⟩ := ht
    obtain ⟨ad, e, h⟩ := hc i _ (str_at _ i (by simp [Mi.regsL]; omega))
    obtain ⟨ad2, e2, h2⟩ := hc j _ (str_at _ j (by simp [Mi.regsL]; omega))
    injection e with e
    injection e2 with e2
    subst e
    subst e2
    exact ⟨_, cc, rfl, h, h2, hb⟩
  have HB : Hid (∀ w, Calls Try.prog 53 #[] w (Two Mi.opsL i i w)) := fun w => (operations_table w).mono fun e w' ht => by
    obtain ⟨cc, rfl, hc, hb⟩ := ht
    obtain ⟨ad, e, h⟩ := hc i _ (str_at _ i (by simp [Mi.opsL]; omega))
    injection e with e
    subst e
    exact ⟨_, cc, rfl, h, h, hb⟩
  obtain ⟨u, hu⟩ : ∃ u, u = Mi.regsL.getD i [] := ⟨_, rfl⟩
  obtain ⟨v, hv⟩ : ∃ v, v = Mi.regsL.getD j [] := ⟨_, rfl⟩
  obtain ⟨o, ho⟩ : ∃ o, o = Mi.opsL.getD i [] := ⟨_, rfl⟩
  unfold Two at HA HB
  rw [← hu, ← hv] at HA
  rw [← ho] at HB
  rw [← hu] at li hR
  rw [← hv] at lj hR
  rw [← ho] at lo hR
  clear hu hv ho
  have t0 : IntKind.i64.wrap (c / 8) = c / 8 := by rw [IntKind.wrap_i64]; omega
  have tA : Int.tdiv c 8 = c / 8 := Int.tdiv_eq_ediv_of_nonneg h0
  have t2 : Int.tmod c 8 = j := by rw [Int.tmod_eq_emod_of_nonneg (by omega)]; exact hj
  have t1 : Int.tmod (c / 8) 8 = i := by rw [Int.tmod_eq_emod_of_nonneg (by omega)]; exact hi
  have t3 : (0 : Int) ≤ c / 8 := by omega
  have i9 : i < 8 := by omega
  have j9 : j < 8 := by omega
  have t4 : c / 8 ≤ 31 := by omega
  by_cases k4 : c < 128
  · rw [if_pos k4] at hR
    have HR := Lib.hid hR
    clear hR
    go_enter Try.func28, Try.ntmps28
    go_wp2_with fail
    go_region_with (first
      | (go_at_call 32; have gA := hA1; refine (HA.out _).mono ?_; rintro e w' ⟨ad2, cap2, rfl, hB1, hB2, hb2⟩; replace hA1 := (hb2.cell (block_lt_of_cell hA1)).trans hA1; replace hA2 := (hb2.cell (block_lt_of_cell hA2)).trans hA2; replace hb := hb.trans (hb2.mono hb.size); clear gA)
      | (go_at_call 32; refine (HA.out _).mono ?_; rintro e w' ⟨ad, cap, rfl, hA1, hA2, hb⟩))
    all_goals
      go_wp2_with fail
      go_ret
      refine ⟨?_, below_drew0 hb⟩
      rw [HR.out]
      exact congrArg (fun x => Ending.returned (Value.string x)) (by rw [app_data, app_data, app_data])
  · rw [if_neg k4] at hR
    have HR := Lib.hid hR
    clear hR
    go_enter Try.func28, Try.ntmps28
    go_wp2_with fail
    go_region_with (first
      | (go_at_call 32; have gA := hB1; refine (HA.out _).mono ?_; rintro e w' ⟨ad2, cap2, rfl, hA1, hA2, hb2⟩; replace hB1 := (hb2.cell (block_lt_of_cell hB1)).trans hB1; replace hb := hb.trans (hb2.mono hb.size); clear gA)
      | (go_at_call 32; refine (HA.out _).mono ?_; rintro e w' ⟨ad2, cap2, rfl, hA1, hA2, hb⟩)
      | (go_at_call 53; have gA := hA1; refine (HB.out _).mono ?_; rintro e w' ⟨ad, cap, rfl, hB1, hB2, hb2⟩; replace hA1 := (hb2.cell (block_lt_of_cell hA1)).trans hA1; replace hA2 := (hb2.cell (block_lt_of_cell hA2)).trans hA2; replace hb := hb.trans (hb2.mono hb.size); clear gA)
      | (go_at_call 53; refine (HB.out _).mono ?_; rintro e w' ⟨ad, cap, rfl, hB1, hB2, hb⟩))
    all_goals
      go_wp2_with fail
      go_ret
      refine ⟨?_, below_drew0 hb⟩
      rw [HR.out]
      exact congrArg (fun x => Ending.returned (Value.string x)) (by rw [app_data])
end Go.Proofs.Ytjkakmmhbciilaa
