/- Package micro: Time, Fetches. -/
import Derived.Test.YtfhegloobldokaaMicC
namespace Go.Proofs.Ytfhegloobldokaa
set_option linter.unusedSimpArgs false
set_option linter.unusedVariables false
open Go.RowKit
namespace Mi
/-- how long steps take -/
def timeS (met : Bool) : List Stp → Int
  | [] => 0
  | s :: l => if s.1 ≤ 4 ∧ 0 ≤ s.1 then s.2.2.2 + timeS met l else if s.1 = 6 ∧ met = false then 0 else timeS met l
/-- how many steps read at Pc -/
def fetchesS : List Stp → Int
  | [] => 0
  | s :: l => (if s.1 = 1 ∧ s.2.1 = 0 then 1 else 0) + fetchesS l
/-- steps of small numbers -/
def Small (l : List Stp) : Prop := ∀ s ∈ l, 0 ≤ s.1 ∧ s.1 ≤ 6 ∧ 0 ≤ s.2.2.2 ∧ s.2.2.2 ≤ 1000
end Mi
/-- a list of steps, as it is read -/
def Steps_ (w : World) (v : Value) (l : List Stp) : Prop := ∃ A c, v = .slice A l.length c ∧ Cells w A (flat l)
theorem flat_get (l : List Stp) (k : Nat) (s : Stp) (h : l[k]? = some s) : (flat l)[4 * k]? = some (.int .i64 s.1) ∧ (flat l)[4 * k + 1]? = some (.int .i64 s.2.1) ∧ (flat l)[4 * k + 2]? = some (.int .i64 s.2.2.1) ∧ (flat l)[4 * k + 3]? = some (.int .i64 s.2.2.2) := by
  induction l generalizing k with
  | nil => simp at h
  | cons t l ih =>
    have e : flat (t :: l) = stp t ++ flat l := rfl
    cases k with
    | zero =>
      simp at h
      subst h
      rw [e]
      simp [stp]
    | succ k =>
      have h2 := ih k (by simpa using h)
      have hl : (stp t).length = 4 := by simp [stp]
      rw [e]
      refine ⟨?_, ?_, ?_, ?_⟩
      · rw [List.getElem?_append_right (by omega), hl, show 4 * (k + 1) - 4 = 4 * k from by omega]; exact h2.1
      · rw [List.getElem?_append_right (by omega), hl, show 4 * (k + 1) + 1 - 4 = 4 * k + 1 from by omega]; exact h2.2.1
      · rw [List.getElem?_append_right (by omega), hl, show 4 * (k + 1) + 2 - 4 = 4 * k + 2 from by omega]; exact h2.2.2.1
      · rw [List.getElem?_append_right (by omega), hl, show 4 * (k + 1) + 3 - 4 = 4 * k + 3 from by omega]; exact h2.2.2.2
theorem timeS_drop (met : Bool) (l : List Stp) (k : Nat) (s : Stp) (h : l[k]? = some s) : Mi.timeS met (l.drop k) = if s.1 ≤ 4 ∧ 0 ≤ s.1 then s.2.2.2 + Mi.timeS met (l.drop (k + 1)) else if s.1 = 6 ∧ met = false then 0 else Mi.timeS met (l.drop (k + 1)) := by
  have hk : k < l.length := (List.getElem?_eq_some_iff.1 h).1
  rw [List.drop_eq_getElem_cons hk]
  have e := List.getElem?_eq_getElem hk
  rw [h] at e
  injection e with e
  rw [← e]; rfl
theorem timeS_range (met : Bool) (l : List Stp) (h : Mi.Small l) : 0 ≤ Mi.timeS met l ∧ Mi.timeS met l ≤ 1000 * l.length := by
  induction l with
  | nil => simp [Mi.timeS]
  | cons s l ih =>
    have h1 := h s (by simp)
    have h2 := ih (fun t ht => h t (by simp [ht]))
    simp only [Mi.timeS, List.length_cons]
    split
    · omega
    · split <;> omega
theorem Small_drop {l : List Stp} (h : Mi.Small l) (k : Nat) : Mi.Small (l.drop k) := fun s hs => h s (List.mem_of_mem_drop hs)

theorem add_next (ad : Addr) (i j : Nat) : (⟨(ad.add i).block, (ad.add i).off + (j + 1), none⟩ : Addr) = ad.add (i + (j + 1)) := by
  unfold Addr.add
  by_cases h : i = 0
  · subst h; simp
  · simp [h, Nat.add_assoc]
set_option maxRecDepth 100000 in
set_option maxHeartbeats 4000000 in
theorem time_any (met : Bool) (v : Value) (l : List Stp) (w : World) (hs : Steps_ w v l) (hsm : Mi.Small l) (hl : l.length ≤ 10000) :
    Calls Try.prog 33 #[v, .bool met] w fun e w' => e = .returned (.int .i64 (Mi.timeS met l)) ∧ Below w.heap.size w w' := by
  obtain ⟨A, c, rfl, hc⟩ := hs
  have HC := Lib.hid hc; have HSM := Lib.hid hsm; clear hc hsm
  obtain ⟨R, hR⟩ : ∃ R, R = Mi.timeS met l := ⟨_, rfl⟩
  rw [← hR]
  have HR := Lib.hid hR; clear hR
  obtain ⟨n, hn⟩ : ∃ n, n = l.length := ⟨_, rfl⟩
  rw [← hn] at hl ⊢
  have HN := Lib.hid hn; clear hn
  go_enter Try.func33, Try.ntmps33
  go_wp2_with fail
  go_loopw [5, 10] (fun t i wr => ∃ (k : Nat) (S : Int), k ≤ n ∧ i = .int .i64 k ∧ t = .int .i64 S ∧ Hid (S + Mi.timeS met (l.drop k) = R) ∧ 0 ≤ S ∧ S ≤ 1000 * k ∧ Below w.heap.size w wr) (fun _ i _ => n - (intOf i).toNat)
  case atStart => exact ⟨0, 0, by omega, rfl, rfl, by show _ = _; rw [HR.out]; simp, by omega, by omega, Below.refl _ _⟩
  case round =>
    obtain ⟨k, S, hk, rfl, rfl, HS, hS0, hS1, hB⟩ := hrel
    have hsz := hB.size
    by_cases hlt : k < n
    · obtain ⟨s, hs⟩ : ∃ s, l[k]? = some s := ⟨_, List.getElem?_eq_getElem (by have := HN.out; omega)⟩
      obtain ⟨g0, g1, g2, g3⟩ := flat_get l k s hs
      obtain ⟨ad, rfl, c0⟩ := HC.out _ _ g0
      obtain ⟨ad', e1, c1⟩ := HC.out _ _ g1
      injection e1 with e1; subst e1
      obtain ⟨ad', e1, c2⟩ := HC.out _ _ g2
      injection e1 with e1; subst e1
      obtain ⟨ad', e1, c3⟩ := HC.out _ _ g3
      injection e1 with e1; subst e1
      have d0 := (hB.cell (block_lt_of_cell c0)).trans c0
      have d1 := (hB.cell (block_lt_of_cell c1)).trans c1
      have d2 := (hB.cell (block_lt_of_cell c2)).trans c2
      have d3 := (hB.cell (block_lt_of_cell c3)).trans c3
      have htd := timeS_drop met l k s hs
      have hsm := HSM.out s (List.mem_of_getElem? hs)
      obtain ⟨k1, k2, k3, k4⟩ := s
      simp only [] at d0 d1 d2 d3 htd hsm
      have HTD := Lib.hid htd
      obtain ⟨m0, m1, m2, m3⟩ := hsm
      clear htd hs g0 g1 g2 g3 c0 c1 c2 c3
      rw [Nat.mul_comm] at d0 d1 d2 d3
      rw [← add_next ad (k * 4) 0] at d1
      rw [← add_next ad (k * 4) 1] at d2
      rw [← add_next ad (k * 4) 2] at d3
      have key : (Hid (k1 ≤ 4 ∧ 0 ≤ k1) ∧ (k1 = 0 ∨ k1 = 1 ∨ k1 = 2 ∨ k1 = 3 ∨ k1 = 4)) ∨ k1 = 5 ∨ k1 = 6 := by
        rcases (show k1 ≤ 4 ∨ k1 = 5 ∨ k1 = 6 by omega) with h | h | h
        · exact .inl ⟨⟨h, m0⟩, by omega⟩
        · exact .inr (.inl h)
        · exact .inr (.inr h)
      rcases key with ⟨HK, rfl | rfl | rfl | rfl | rfl⟩ | rfl | rfl
      iterate 5
        · have hnx : S + k4 + Mi.timeS met (l.drop (k + 1)) = R := by
            rw [← HS.out, HTD.out, if_pos (by omega)]; omega
          have HNX := Lib.hid hnx; clear hnx
          go_wp2_with fail
          go_roundw
          case rel => exact ⟨k + 1, S + k4, by omega, by go_num, rfl, HNX.out, by omega, by omega, hB.alloc hsz _⟩
          case measure => simp [intOf]; omega
      · have hnx : S + Mi.timeS met (l.drop (k + 1)) = R := by
          rw [← HS.out, HTD.out, if_neg (by omega), if_neg (by omega)]
        have HNX := Lib.hid hnx; clear hnx
        go_wp2_with fail
        go_roundw
        case rel => exact ⟨k + 1, S, by omega, by go_num, rfl, HNX.out, by omega, by omega, hB.alloc hsz _⟩
        case measure => simp [intOf]; omega
      · cases met with
        | true =>
          have hnx : S + Mi.timeS true (l.drop (k + 1)) = R := by
            rw [← HS.out, HTD.out, if_neg (by omega), if_neg (by simp)]
          have HNX := Lib.hid hnx; clear hnx
          go_wp2_with fail
          go_roundw
          case rel => exact ⟨k + 1, S, by omega, by go_num, rfl, HNX.out, by omega, by omega, hB.alloc hsz _⟩
          case measure => simp [intOf]; omega
        | false =>
          have hres : S = R := by rw [← HS.out, HTD.out, if_neg (by omega), if_pos ⟨rfl, rfl⟩]; omega
          have HRES := Lib.hid hres; clear hres
          go_wp2_with fail
          go_ret
          exact ⟨by rw [← HRES.out]; rfl, hB.alloc hsz _⟩
    · obtain rfl : k = n := by omega
      have hd : l.drop k = [] := List.drop_eq_nil_of_le (by have := HN.out; omega)
      have hres : S = R := by rw [← HS.out, hd]; simp [Mi.timeS]
      have HRES := Lib.hid hres; clear hres hd
      go_wp2_with fail
      go_ret
      exact ⟨by rw [← HRES.out]; rfl, hB⟩

theorem fetchesS_drop (l : List Stp) (k : Nat) (s : Stp) (h : l[k]? = some s) : Mi.fetchesS (l.drop k) = (if s.1 = 1 ∧ s.2.1 = 0 then 1 else 0) + Mi.fetchesS (l.drop (k + 1)) := by
  have hk : k < l.length := (List.getElem?_eq_some_iff.1 h).1
  rw [List.drop_eq_getElem_cons hk]
  have e := List.getElem?_eq_getElem hk
  rw [h] at e
  injection e with e
  rw [← e]; rfl

set_option maxRecDepth 100000 in
set_option maxHeartbeats 4000000 in
theorem fetches_any (v : Value) (l : List Stp) (w : World) (hs : Steps_ w v l) (hl : l.length ≤ 10000) :
    Calls Try.prog 39 #[v] w fun e w' => e = .returned (.int .i64 (Mi.fetchesS l)) ∧ Below w.heap.size w w' := by
  obtain ⟨A, c, rfl, hc⟩ := hs
  have HC := Lib.hid hc; clear hc
  obtain ⟨R, hR⟩ : ∃ R, R = Mi.fetchesS l := ⟨_, rfl⟩
  rw [← hR]
  have HR := Lib.hid hR; clear hR
  obtain ⟨n, hn⟩ : ∃ n, n = l.length := ⟨_, rfl⟩
  rw [← hn] at hl ⊢
  have HN := Lib.hid hn; clear hn
  go_enter Try.func39, Try.ntmps39
  go_wp2_with fail
  go_loopw [3, 8] (fun t i wr => ∃ (k : Nat) (S : Int), k ≤ n ∧ i = .int .i64 k ∧ t = .int .i64 S ∧ Hid (S + Mi.fetchesS (l.drop k) = R) ∧ 0 ≤ S ∧ S ≤ k ∧ Below w.heap.size w wr) (fun _ i _ => n - (intOf i).toNat)
  case atStart => exact ⟨0, 0, by omega, rfl, rfl, by show _ = _; rw [HR.out]; simp, by omega, by omega, Below.refl _ _⟩
  case round =>
    obtain ⟨k, S, hk, rfl, rfl, HS, hS0, hS1, hB⟩ := hrel
    have hsz := hB.size
    by_cases hlt : k < n
    · obtain ⟨s, hs⟩ : ∃ s, l[k]? = some s := ⟨_, List.getElem?_eq_getElem (by have := HN.out; omega)⟩
      obtain ⟨g0, g1, g2, g3⟩ := flat_get l k s hs
      obtain ⟨ad, rfl, c0⟩ := HC.out _ _ g0
      obtain ⟨ad', e1, c1⟩ := HC.out _ _ g1
      injection e1 with e1; subst e1
      obtain ⟨ad', e1, c2⟩ := HC.out _ _ g2
      injection e1 with e1; subst e1
      obtain ⟨ad', e1, c3⟩ := HC.out _ _ g3
      injection e1 with e1; subst e1
      have d0 := (hB.cell (block_lt_of_cell c0)).trans c0
      have d1 := (hB.cell (block_lt_of_cell c1)).trans c1
      have d2 := (hB.cell (block_lt_of_cell c2)).trans c2
      have d3 := (hB.cell (block_lt_of_cell c3)).trans c3
      have htd := fetchesS_drop l k s hs
      obtain ⟨k1, k2, k3, k4⟩ := s
      simp only [] at d0 d1 d2 d3 htd
      have HTD := Lib.hid htd
      clear htd hs g0 g1 g2 g3 c0 c1 c2 c3
      rw [Nat.mul_comm] at d0 d1 d2 d3
      rw [← add_next ad (k * 4) 0] at d1
      rw [← add_next ad (k * 4) 1] at d2
      rw [← add_next ad (k * 4) 2] at d3
      by_cases c1 : k1 = 1
      · by_cases c2 : k2 = 0
        · have hnx : S + 1 + Mi.fetchesS (l.drop (k + 1)) = R := by rw [← HS.out, HTD.out, if_pos ⟨c1, c2⟩]; omega
          have HNX := Lib.hid hnx; clear hnx
          subst c1; subst c2
          go_wp2_with fail
          go_roundw
          case rel => exact ⟨k + 1, S + 1, by omega, by go_num, rfl, HNX.out, by omega, by omega, hB.alloc hsz _⟩
          case measure => simp [intOf]; omega
        · have hnx : S + Mi.fetchesS (l.drop (k + 1)) = R := by rw [← HS.out, HTD.out, if_neg (fun h => c2 h.2)]; omega
          have b2 : (k2 == 0) = false := by simpa using c2
          have HNX := Lib.hid hnx; clear hnx c2
          subst c1
          go_wp2_with fail
          go_roundw
          case rel => exact ⟨k + 1, S, by omega, by go_num, rfl, HNX.out, by omega, by omega, hB.alloc hsz _⟩
          case measure => simp [intOf]; omega
      · have hnx : S + Mi.fetchesS (l.drop (k + 1)) = R := by rw [← HS.out, HTD.out, if_neg (fun h => c1 h.1)]; omega
        have b1 : (k1 == 1) = false := by simpa using c1
        have HNX := Lib.hid hnx; clear hnx c1
        go_wp2_with fail
        go_roundw
        case rel => exact ⟨k + 1, S, by omega, by go_num, rfl, HNX.out, by omega, by omega, hB.alloc hsz _⟩
        case measure => simp [intOf]; omega
    · obtain rfl : k = n := by omega
      have hd : l.drop k = [] := List.drop_eq_nil_of_le (by have := HN.out; omega)
      have hres : S = R := by rw [← HS.out, hd]; simp [Mi.fetchesS]
      have HRES := Lib.hid hres; clear hres hd
      go_wp2_with fail
      go_ret
      exact ⟨by rw [← HRES.out]; rfl, hB⟩
end Go.Proofs.Ytfhegloobldokaa
