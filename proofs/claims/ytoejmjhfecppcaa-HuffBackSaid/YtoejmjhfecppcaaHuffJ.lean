/- The contract of the reference's Numbers. -/
import Derived.Test.YtoejmjhfecppcaaHuffD
import Derived.Test.YtoejmjhfecppcaaHuffG
namespace Go.Proofs.Ytoejmjhfecppcaa
open Go.RowKit
namespace Hf
/-- the numbers when the lengths below k are done, and of length k the first i symbols -/
def numAt (l : List Int) (k i : Nat) : List Int :=
  (List.range l.length).map fun s => if 0 < l.getD s 0 ∧ (l.getD s 0 < k ∨ (l.getD s 0 = k ∧ s < i)) then codeOf l (l.take s) (l.getD s 0) else 0
theorem numAt_len (l : List Int) (k i : Nat) : (numAt l k i).length = l.length := by simp [numAt]
theorem numAt_zero (l : List Int) : (numAt l 1 0).map (Value.int .i64) = zeros l.length := by
  unfold numAt zeros
  rw [List.map_map]
  apply List.ext_getElem
  · simp
  · intro j h1 h2
    simp only [List.getElem_map, List.getElem_range, List.getElem_replicate, Function.comp]
    rw [if_neg (by omega)]
theorem numAt_next (l : List Int) (k : Nat) : numAt l k l.length = numAt l (k + 1) 0 := by
  unfold numAt
  apply List.map_congr_left
  intro s hs
  have hs2 : s < l.length := by simpa using hs
  by_cases h : 0 < l.getD s 0 ∧ (l.getD s 0 < k ∨ (l.getD s 0 = k ∧ s < l.length))
  · rw [if_pos h, if_pos (by omega)]
  · rw [if_neg h, if_neg (by omega)]
theorem numAt_end (l : List Int) (h : inRange l) : numAt l 16 0 = codeList l := by
  unfold numAt codeList codesTo
  apply List.map_congr_left
  intro s hs
  have hs2 : s < l.length := by simpa using hs
  have hm : l.getD s 0 ∈ l := by simp [List.getD, List.getElem?_eq_getElem hs2]
  have := h _ hm
  by_cases h0 : 0 < l.getD s 0
  · rw [if_pos (by omega)]
  · rw [if_neg (by omega)]; unfold codeOf; rw [if_pos (by omega)]
theorem numAt_hit (l : List Int) (k i : Nat) (hi : i < l.length) (hk : l.getD i 0 = k) (h0 : 0 < k) :
    ((numAt l k i).map (Value.int .i64)).set i (.int .i64 (start l k + cnt (l.take i) k)) = (numAt l k (i + 1)).map (Value.int .i64) := by
  apply List.ext_getElem
  · simp [numAt]
  · intro j h1 h2
    rw [List.getElem_set]
    simp only [numAt, List.getElem_map, List.getElem_range]
    by_cases e : i = j
    · subst e
      rw [if_pos rfl, if_pos (by omega)]
      unfold codeOf
      rw [if_neg (by omega), hk]; rfl
    · rw [if_neg e]
      by_cases h : 0 < l.getD j 0 ∧ (l.getD j 0 < k ∨ (l.getD j 0 = k ∧ j < i))
      · rw [if_pos h, if_pos (by omega)]
      · rw [if_neg h, if_neg (by omega)]
theorem numAt_miss (l : List Int) (k i : Nat) (hk : ¬ l.getD i 0 = k) : numAt l k i = numAt l k (i + 1) := by
  unfold numAt
  apply List.map_congr_left
  intro s _
  by_cases e : s = i
  · subst e
    by_cases h : 0 < l.getD s 0 ∧ (l.getD s 0 < k ∨ (l.getD s 0 = k ∧ s < s))
    · rw [if_pos h, if_pos (by omega)]
    · rw [if_neg h, if_neg (by omega)]
  · by_cases h : 0 < l.getD s 0 ∧ (l.getD s 0 < k ∨ (l.getD s 0 = k ∧ s < i))
    · rw [if_pos h, if_pos (by omega)]
    · rw [if_neg h, if_neg (by omega)]
theorem zeros_succ (k : Nat) : zeros k ++ [Value.int .i64 0] = zeros (k + 1) := by simp [zeros, List.replicate_succ']
end Hf

/-- a list of numbers in new memory -/
def OwnInts (k : IntKind) (t : TypeId) (l : List Int) (n : Nat) (w : World) (e : Ending) (w' : World) : Prop :=
  ∃ v, e = .returned v ∧ w'.ownsRow w.heap.size t 1 v n (l.map (Value.int k)) ∧ Below w.heap.size w w'

set_option maxHeartbeats 4000000 in
theorem numbers_any (A : Option Addr) (n c : Nat) (l : List Int) (w : World) (hl : Ints w A .i64 l) (hn : l.length = n) (he : Hf.err l = 0) :
    Calls Try.prog 20 #[.slice A n c] w (OwnInts .i64 3 (Hf.codeList l) n w) := by
  obtain ⟨hr0, hn3, hin⟩ := Hf.err_room he
  have HL := Lib.hid hl; have HN := Lib.hid hn; have HIN := Lib.hid hin; have HST := Lib.hid (Hf.start_le l hr0); clear hl hn hin hr0 he
  have hn4 : n ≤ 320 := by have := HN.out; omega
  clear hn3
  obtain ⟨R, hR⟩ : ∃ R, R = Hf.codeList l := ⟨_, rfl⟩
  rw [← hR]
  have HR := Lib.hid hR; clear hR
  go_enter Try.func20, Try.ntmps20
  go_wp2_with fail
  go_loopw [3, 4] (fun vs i wr => ∃ (k : Nat) (v : Value), k ≤ n ∧ i = .int .i64 k ∧ v = vs ∧ wr.ownsRow w.heap.size 3 1 v k (zeros k) ∧ Below w.heap.size w wr) (fun _ i _ => n - (intOf i).toNat)
  case atStart => exact ⟨0, _, by omega, rfl, rfl, World.ownsRow_nil _ _ _ _, Below.refl _ _⟩
  case round =>
    obtain ⟨k, v, hk, rfl, rfl, hown, hB⟩ := hrel
    have HO := Lib.hid hown; clear hown
    have hsz := hB.size
    by_cases hlt : k < n
    · go_wp2_with (first | (at_builtin; refine wpList_app1s wr rfl (.tmp 14) (.tmp 15) 38 rfl w.heap.size 3 (.int .i64 0) 8 Try.underlying38 infoInt rfl v k _ rfl HO.out (.int .i64 0) rfl rfl (by omega) (by omega) hsz ?_; intro g2 c2 w2 hown2 hg2; have HO2 := Lib.hid hown2; have HG2 := Lib.hid hg2; clear hown2 hg2))
      have hB4 := Below_own hB HO.out HG2.out (by omega) hsz
      go_roundw
      case rel => exact ⟨k + 1, _, by omega, by go_num, rfl, by rw [← Hf.zeros_succ]; exact HO2.out, hB4⟩
      case measure => simp [intOf]; omega
    · obtain rfl : k = n := by omega
      have h0 := HO.out
      rw [← HN.out, ← Hf.numAt_zero, HN.out] at h0
      have HO1 := Lib.hid h0; clear h0
      obtain ⟨wo, rfl⟩ : ∃ wo : World, wo = wr := ⟨_, rfl⟩
      go_wp2_with fail
      go_loopw [5, 6] (fun cs i wr => ∃ (j : Nat) (C : Int), j < 16 ∧ i = .int .i64 (j + 1) ∧ cs = .int .i64 C ∧ Hid (2 * C = Hf.start l (j + 1)) ∧ 0 ≤ C ∧ C ≤ 32768 ∧ Hid (wr.ownsRow w.heap.size 3 1 v k ((Hf.numAt l (j + 1) 0).map (Value.int .i64))) ∧ Below w.heap.size w wr) (fun _ i _ => 17 - (intOf i).toNat)
      case atStart => exact ⟨0, 0, by omega, rfl, rfl, rfl, by omega, by omega, HO1.out, hB⟩
      case round =>
        obtain ⟨j, C, hj, rfl, rfl, HC, hC0, hC1, HO2, hB2⟩ := hrel
        by_cases hj15 : j < 15
        · obtain ⟨wp, rfl⟩ : ∃ wp : World, wp = wr := ⟨_, rfl⟩
          have hd15 : decide ((j : Int) + 1 ≤ 15) = true := by simp; omega
          have hpw : (2 : Int) ^ (j + 1) ≤ 32768 := by
            have h1 : (2 : Nat) ^ (j + 1) ≤ 2 ^ 15 := Nat.pow_le_pow_right (by omega) (by omega)
            have h2 : ((2 ^ (j + 1) : Nat) : Int) ≤ ((2 ^ 15 : Nat) : Int) := by exact_mod_cast h1
            simpa using h2
          have hst := HST.out j hj15
          have hmax : Hf.start l (j + 1) + Hf.cnt l (j + 1) ≤ 32768 := by omega
          have HMAX := Lib.hid hmax; clear hpw hst hmax
          go_wp2_with fail
          go_loopw [5, 7] (fun cs i wr => ∃ (s : Nat) (D : Int), s ≤ k ∧ i = .int .i64 s ∧ cs = .int .i64 D ∧ Hid (D = Hf.start l (j + 1) + Hf.cnt (l.take s) (j + 1)) ∧ Hid (wr.ownsRow w.heap.size 3 1 v k ((Hf.numAt l (j + 1) s).map (Value.int .i64))) ∧ Below w.heap.size w wr) (fun _ i _ => k - (intOf i).toNat)
          case atStart => exact ⟨0, _, by omega, rfl, rfl, by show _ = _; rw [HC.out]; simp [Hf.cnt_nil], HO2.out, hB2⟩
          case round =>
            obtain ⟨s, D, hs, rfl, rfl, HD, HO3, hB3⟩ := hrel
            by_cases hlt2 : s < k
            · obtain ⟨x, hx⟩ : ∃ x, l[s]? = some x := ⟨_, List.getElem?_eq_getElem (by rw [HN.out]; exact hlt2)⟩
              have hts : l.take (s + 1) = l.take s ++ [x] := by rw [List.take_add_one, hx]; rfl
              have hgd : l.getD s 0 = x := by simp [List.getD, hx]
              obtain ⟨ad, rfl, hc0⟩ := HL.out s (.int .i64 x) (by simp [hx])
              have hc := (hB3.cell (block_lt_of_cell hc0)).trans hc0
              have HTS := Lib.hid hts; have HGD := Lib.hid hgd; clear hts hgd hx hc0
              have hD0 : 0 ≤ D := by rw [HD.out]; have := Hf.start_nonneg l (j + 1); have := Hf.cnt_nonneg (l.take s) (j + 1); omega
              have hD1 : D ≤ 40000 := by
                rw [HD.out]; have h1 := HMAX.out; have h2 := Hf.cnt_nonneg l (j + 1); have h3 := Hf.cnt_le (l.take s) (j + 1)
                have : (l.take s).length ≤ s := List.length_take_le _ _; omega
              by_cases he : x = (j : Int) + 1
              · have heq : (x == (j : Int) + 1) = true := by simpa using he
                obtain ⟨g, cap, rfl, hgb, _⟩ := HO3.out.form (by omega)
                have hcc := HO3.out.cellAt s (by omega)
                have hnl : s < ((Hf.numAt l (j + 1) s).map (Value.int .i64)).length := by rw [List.length_map, Hf.numAt_len, HN.out]; exact hlt2
                obtain ⟨y, hy⟩ : ∃ y, ((Hf.numAt l (j + 1) s).map (Value.int .i64))[s]? = some y := ⟨_, List.getElem?_eq_getElem hnl⟩
                rw [hy] at hcc
                clear hy
                have hff := HO3.out.frozenAt s
                have hst2 := HO3.out.stored s (.int .i64 D)
                have HS2 := Lib.hid hst2; have HGB := Lib.hid hgb; have HE := Lib.hid he
                clear hst2 hgb he hnl
                go_wp2_with fail
                go_roundw
                case rel =>
                  refine ⟨s + 1, D + 1, by omega, by go_num, rfl, ?_, ?_, below_of_grown hB3 HS2.out.2 HGB.out hB3.size⟩
                  · show _ = _
                    rw [HTS.out, Hf.cnt_snoc, HD.out, if_pos (by rw [HE.out]; rfl)]; omega
                  · show World.ownsRow _ _ _ _ _ _ _
                    rw [← Hf.numAt_hit l (j + 1) s (by rw [HN.out]; exact hlt2) (by rw [HGD.out, HE.out]; rfl) (by omega), ← HD.out]
                    exact HS2.out.1
                case measure => simp [intOf]; omega
              · have heq : (x == (j : Int) + 1) = false := by simpa using he
                have HE := Lib.hid he; clear he
                go_wp2_with fail
                go_roundw
                case rel =>
                  refine ⟨s + 1, D, by omega, by go_num, rfl, ?_, ?_, hB3⟩
                  · show _ = _
                    rw [HTS.out, Hf.cnt_snoc, HD.out, if_neg (fun h => HE.out (by rw [h]; rfl))]; omega
                  · show World.ownsRow _ _ _ _ _ _ _
                    rw [← Hf.numAt_miss l (j + 1) s (by rw [HGD.out]; exact fun h => HE.out (by rw [h]; rfl))]
                    exact HO3.out
                case measure => simp [intOf]; omega
            · obtain rfl : s = k := by omega
              have hD := HD.out
              rw [List.take_of_length_le (by rw [HN.out]; exact Nat.le_refl _)] at hD
              have HD2 := Lib.hid hD; clear hD
              have hm := HMAX.out
              rw [← HD2.out] at hm
              have h0 : 0 ≤ D := by rw [HD2.out]; have := Hf.start_nonneg l (j + 1); have := Hf.cnt_nonneg l (j + 1); omega
              go_wp2_with fail
              go_roundw
              case rel =>
                refine ⟨j + 1, D, by omega, by go_num, rfl, ?_, h0, hm, ?_, hB3⟩
                · show _ = _
                  rw [Hf.start_succ l (j + 1) (by omega), HD2.out]
                · show World.ownsRow _ _ _ _ _ _ _
                  have h := HO3.out
                  rw [← HN.out, Hf.numAt_next, HN.out] at h
                  exact h
              case measure => simp [intOf]; omega
        · obtain rfl : j = 15 := by omega
          go_wp2_with fail
          go_ret
          refine ⟨v, rfl, ?_, hB2⟩
          rw [HR.out, ← Hf.numAt_end l HIN.out]
          exact HO2.out
end Go.Proofs.Ytoejmjhfecppcaa
