/- The contract of huff.counted. -/
import Derived.Test.YtcjdeinmmokdgaaRows
import Derived.Test.YtcjdeinmmokdgaaMem
import Derived.Test.YtcjdeinmmokdgaaHuffS
import Derived.WalkSpells
import Derived.WalkLawsBesides
import Derived.Deep.QuietTactic
import Derived.BigQuiet
import Derived.Lib.Hide
namespace Go.Proofs.Ytcjdeinmmokdgaa
set_option linter.unusedSimpArgs false
set_option linter.unusedVariables false
open Go.RowKit

theorem counts_one (l : List Int) : (Hf.counts l).toArray.all (·.oneCell') = true := by
  rw [Array.all_eq_true]; intro i hi; simp [Hf.counts, Value.oneCell']

/-- what counted hands back -/
def CountedPost (l : List Int) (w : World) (e : Ending) (w' : World) : Prop :=
  (∃ m : List Int, e = .returned (.tuple #[.agg (Hf.counts m).toArray, .int .i64 (Hf.err l)]) ∧ (Hf.err l = 0 → m = l)) ∧ Below w.heap.size w w'


theorem infoArr : (Try.prog.info? 67).map (·.size) = some 16 := by kernel_rfl

theorem huff_ret (l m : List Int) (w W : World) (a : Act) (e : Int) (hm : Hf.err l = 0 → m = l) (he : Hf.err l = e) (hb : Blk W w.heap.size 67 (Hf.counts m)) (hB : Below w.heap.size w W)
    (h2 : a.tmps.getD 2 undef = .pointer (some ⟨w.heap.size, 0, none⟩)) (h3 : a.tmps.getD 3 undef = .int .i64 e) (hd : a.defers = []) :
    bodyPost Try.prog Try.f32 (CountedPost l w) .ret a W := by
  subst he
  exact bodyPost_ret (v := .tuple #[.agg (Hf.counts m).toArray, .int .i64 (Hf.err l)]) (results_row_tmp rfl h2 hb Try.underlying67 rfl (by rw [infoArr]; simp [Hf.counts_len]) h3) hd ⟨⟨m, rfl, hm⟩, hB⟩

set_option maxHeartbeats 6000000 in
theorem counted_any (A : Option Addr) (n c : Nat) (l : List Int) (w : World) (hl : Ints w A .i64 l) (hn : l.length = n) (hn2 : n ≤ 9223372036854775807) :
    Calls Try.prog 32 #[.slice A n c] w (CountedPost l w) := by
  have HN := Lib.hid hn; clear hn
  by_cases h320 : 320 < n
  · have hd : decide ((320 : Int) < n) = true := by simp; omega
    go_enter Try.func32, Try.ntmps32
    go_wp2_with (first | (refine wpList_load_row rfl 67 (.tmp 4) rfl (w.heap.size + 1) rfl 67 _ (0, 0) _ (heap_alloc2_new w _ _) Try.underlying67 rfl (by kernel_rfl) ?_) | (refine wpList_store_rowTo rfl 67 (.tmp 2) (.tmp 13) rfl rfl w.heap.size _ rfl rfl 67 _ (heap_alloc2_old w _ _) (by kernel_rfl) rfl rfl ?_))
    refine huff_ret l [] w _ _ _ (fun h => ?_) ?_ (blk_alloc2_old w _ 67 (Hf.counts [])) (((Below.refl _ _).alloc (Nat.le_refl _) _).alloc (by simp) _) rfl rfl rfl
    · have := HN.out; unfold Hf.err at h; rw [if_pos (by omega)] at h; omega
    · have := HN.out; unfold Hf.err; rw [if_pos (by omega)]
  · have hd : decide ((320 : Int) < n) = false := by simp; omega
    go_enter Try.func32, Try.ntmps32
    go_wp2
    go_loopw [16] (fun i wr => ∃ k : Nat, k ≤ n ∧ i = .int .i64 k ∧ Blk wr w.heap.size 67 (Hf.counts []) ∧ Blk wr (w.heap.size + 1) 67 (Hf.counts (l.take k)) ∧ Below w.heap.size w wr ∧ Hf.inRange (l.take k)) (fun i _ => n - (intOf i).toNat)
    case atStart => exact ⟨0, Nat.zero_le _, rfl, blk_alloc2_old w _ 67 (Hf.counts []), blk_alloc2_new w _ 67 (Hf.counts []), (((Below.refl _ _).alloc (Nat.le_refl _) _).alloc (by simp) _), fun x hx => by cases hx⟩
    case round =>
      obtain ⟨k, hk, rfl, hb0, hb1, hB, hin⟩ := hrel
      by_cases hlt : k < n
      · obtain ⟨x, hx⟩ : ∃ x, l[k]? = some x := ⟨_, List.getElem?_eq_getElem (by rw [HN.out]; exact hlt)⟩
        obtain ⟨ad, rfl, hc0⟩ := hl k (.int .i64 x) (by simp [hx])
        have hc := (hB.cell (block_lt_of_cell hc0)).trans hc0
        have HX := Lib.hid hx; clear hx hc0
        have HB0 := Lib.hid hb0; have HB1 := Lib.hid hb1; have HIN := Lib.hid hin; clear hb0 hb1 hin
        by_cases hr : 0 ≤ x ∧ x ≤ 15
        · obtain ⟨m, rfl⟩ := Int.eq_ofNat_of_zero_le hr.1
          have hm : m < 16 := by omega
          clear hr
          have hcl : wr.cell? ⟨w.heap.size + 1, m, none⟩ = some (.int .i64 (Hf.cnt (l.take k) m)) := by rw [HB1.out.cell, Hf.counts_get _ _ hm]
          have hfz := HB1.out.frozen m
          have hb1 := Hf.cnt_nonneg (l.take k) m
          have hb2 := Hf.cnt_le (l.take k) m
          have hb3 : (l.take k).length ≤ k := List.length_take_le _ _
          go_wp2
          have hts : l.take (k + 1) = l.take k ++ [(m : Int)] := by rw [List.take_add_one, HX.out]; rfl
          go_roundw
          case rel => exact ⟨k + 1, by omega, by go_num, HB0.out.far (by simp) _, by rw [hts, ← Hf.counts_set _ _ hm]; exact HB1.out.set_ m _, hB.setCell (by simp) _, by
            rw [hts]; intro y hy; rcases List.mem_append.1 hy with h | h
            · exact HIN.out y h
            · simp at h; omega⟩
          case measure => simp [intOf]; omega
        · have hcl0 : wr.heap[w.heap.size]? = some (.cells (Hf.counts []).toArray 67 (0, 0)) := HB0.out
          have hcl1 : wr.heap[w.heap.size + 1]? = some (.cells (Hf.counts (l.take k)).toArray 67 (0, 0)) := HB1.out
          have HC0 := Lib.hid hcl0; have HC1 := Lib.hid hcl1; clear hcl0 hcl1
          have hnr : ¬ Hf.inRange l := fun h => hr (h x (List.mem_of_getElem? HX.out))
          have HNR := Lib.hid hnr; clear hnr
          by_cases hx0 : x < 0
          all_goals
            go_wp2_with (first | (refine wpList_load_row rfl 67 (.tmp 4) rfl (w.heap.size + 1) rfl 67 _ (0, 0) _ HC1.out Try.underlying67 rfl (by rw [infoArr]; simp [Hf.counts_len]) ?_) | (refine wpList_store_rowTo rfl 67 (.tmp 2) (.tmp 26) rfl rfl w.heap.size _ rfl rfl 67 _ HC0.out (by rw [infoArr]; simp [Hf.counts_len]) (by simp [Hf.counts_len]) (counts_one _) ?_))
            refine huff_ret l (l.take k) w _ _ _ (fun h => ?_) ?_ (HB0.out.setRow _) (below_setRow hB (Nat.le_refl _) _) rfl rfl rfl
            · have := HN.out; unfold Hf.err at h; rw [if_neg (by omega), if_pos HNR.out] at h; omega
            · have := HN.out; unfold Hf.err; rw [if_neg (by omega), if_pos HNR.out]
      · have hkn : k = l.length := by rw [HN.out]; omega
        obtain rfl : k = n := by omega
        rw [List.take_of_length_le (by omega)] at hb1 hin
        have HB0 := Lib.hid hb0; have HB1 := Lib.hid hb1; have HIN := Lib.hid hin; have HKN := Lib.hid hkn; clear hb0 hb1 hin hkn
        have hq : ∀ m : Nat, m < 16 → wr.cell? ⟨w.heap.size + 1, m, none⟩ = some (.int .i64 (Hf.cnt l m)) := fun m hm => by rw [HB1.out.cell, Hf.counts_get _ _ hm]
        have hc0 := hq 0 (by omega)
        have hc1 := hq 1 (by omega)
        have HQ := Lib.hid hq; clear hq
        have b0 := Hf.cnt_nonneg l 0
        have b1 := Hf.cnt_le l 0
        have b2 : (l.length : Int) = k := by rw [HN.out]
        rw [b2] at b1
        clear b2
        have hcd : Hf.codes l = k - Hf.cnt l 0 := by unfold Hf.codes; rw [HN.out]
        have hcd1 : 0 ≤ Hf.codes l := by omega
        have hcd2 : Hf.codes l ≤ 320 := by omega
        have HCD := Lib.hid hcd; clear hcd
        go_wp2
        go_quiet (fail)
        go_wp2
        go_loop [7, 9] (fun r i => ∃ j : Nat, j < 16 ∧ i = .int .i64 (j + 1) ∧ r = .int .i64 (Hf.room l j) ∧ 0 ≤ Hf.room l j) (fun _ i => 17 - (intOf i).toNat)
        case atStart => exact ⟨0, by omega, rfl, rfl, by simp [Hf.room]⟩
        case round =>
          obtain ⟨j, hj, rfl, rfl, hr0⟩ := hrel
          have hr1 := Hf.room_le l j
          have hr2 : (2 : Int) ^ j ≤ 32768 := by
            have h : (2 : Nat) ^ j ≤ 2 ^ 15 := Nat.pow_le_pow_right (by omega) (by omega)
            have h2 : ((2 ^ j : Nat) : Int) ≤ ((2 ^ 15 : Nat) : Int) := by exact_mod_cast h
            simpa using h2
          have hr3 : Hf.room l j ≤ 32768 := by omega
          clear hr1 hr2
          by_cases hj15 : j < 15
          · have hcj := HQ.out (j + 1) (by omega)
            have d0 := Hf.cnt_nonneg l (j + 1)
            have d1 := Hf.cnt_le l (j + 1)
            have d2 : (l.length : Int) = k := by rw [HN.out]
            rw [d2] at d1
            clear d2
            by_cases hneg : 2 * Hf.room l j - Hf.cnt l (j + 1) < 0
            · go_wp2_with (first | (refine wpList_load_row rfl 67 (.tmp 4) rfl (w.heap.size + 1) rfl 67 _ (0, 0) _ HB1.out Try.underlying67 rfl (by rw [infoArr]; simp [Hf.counts_len]) ?_) | (refine wpList_store_rowTo rfl 67 (.tmp 2) (.tmp 50) rfl rfl w.heap.size _ rfl rfl 67 _ HB0.out (by rw [infoArr]; simp [Hf.counts_len]) (by simp [Hf.counts_len]) (counts_one _) ?_))
              refine huff_ret l l w _ _ 4 (fun _ => rfl) ?_ ((HB0.out.drewN _).setRow _) (below_setRow (Below_drewN hB _) (Nat.le_refl _) _) rfl rfl rfl
              have := Hf.room_neg l (j + 1) (14 - j) (by simp only [Hf.room]; exact hneg)
              rw [show j + 1 + (14 - j) = 15 from by omega] at this
              unfold Hf.err; rw [if_neg (by have := HN.out; omega), if_neg (fun h => h HIN.out), if_pos this]
            · go_wp2
              go_round
              case rel => exact ⟨j + 1, by omega, by go_num, by simp only [Hf.room], by simp only [Hf.room]; omega⟩
              case measure => simp [intOf]; omega
          · obtain rfl : j = 15 := by omega
            have herr : Hf.err l = if 0 < Hf.room l 15 ∧ 0 < Hf.codes l ∧ (1 < Hf.codes l ∨ Hf.cnt l 1 ≠ 1) then 4 else 0 := by
              unfold Hf.err; rw [if_neg (by have := HN.out; omega), if_neg (fun h => h HIN.out), if_neg (by omega)]
            rw [HCD.out] at herr
            have HE := Lib.hid herr; clear herr
            have key : (∃ e, Hid (Hf.err l = e ∧ e = 0) ∧ (¬ 0 < Hf.room l 15 ∨ 0 < Hf.room l 15 ∧ (¬ 0 < k - Hf.cnt l 0 ∨ (0 < k - Hf.cnt l 0 ∧ ¬ 1 < k - Hf.cnt l 0 ∧ (Hf.cnt l 1 != 1) = false)))) ∨
                (∃ e, Hid (Hf.err l = e ∧ e = 4) ∧ 0 < Hf.room l 15 ∧ 0 < k - Hf.cnt l 0 ∧ (1 < k - Hf.cnt l 0 ∨ ¬ 1 < k - Hf.cnt l 0 ∧ (Hf.cnt l 1 != 1) = true)) := by
              by_cases c : 0 < Hf.room l 15 ∧ 0 < k - Hf.cnt l 0 ∧ (1 < k - Hf.cnt l 0 ∨ Hf.cnt l 1 ≠ 1)
              · right
                refine ⟨4, ⟨by rw [HE.out, if_pos c], rfl⟩, c.1, c.2.1, ?_⟩
                rcases c.2.2 with h | h
                · exact .inl h
                · by_cases h1 : 1 < k - Hf.cnt l 0
                  · exact .inl h1
                  · exact .inr ⟨h1, by simpa using h⟩
              · left
                refine ⟨0, ⟨by rw [HE.out, if_neg c], rfl⟩, ?_⟩
                by_cases h0 : 0 < Hf.room l 15
                · refine .inr ⟨h0, ?_⟩
                  by_cases h1 : 0 < k - Hf.cnt l 0
                  · have h2 : ¬ (1 < k - Hf.cnt l 0 ∨ Hf.cnt l 1 ≠ 1) := fun h => c ⟨h0, h1, h⟩
                    refine .inr ⟨h1, fun h => h2 (.inl h), ?_⟩
                    have : Hf.cnt l 1 = 1 := Decidable.byContradiction fun h => h2 (.inr h)
                    simp [this]
                  · exact .inl h1
                · exact .inl h0
            rcases key with ⟨e, HEE, c1 | ⟨c1, c2 | ⟨c2, c3, c4⟩⟩⟩ | ⟨e, HEE, c1, c2, c3 | ⟨c3, c4⟩⟩
            all_goals
              go_wp2_with (first | (refine wpList_load_row rfl 67 (.tmp 4) rfl (w.heap.size + 1) rfl 67 _ (0, 0) _ HB1.out Try.underlying67 rfl (by rw [infoArr]; simp [Hf.counts_len]) ?_) | (refine wpList_store_rowTo rfl 67 (.tmp 2) (.tmp 66) rfl rfl w.heap.size _ rfl rfl 67 _ HB0.out (by rw [infoArr]; simp [Hf.counts_len]) (by simp [Hf.counts_len]) (counts_one _) ?_) | (refine wpList_store_rowTo rfl 67 (.tmp 2) (.tmp 67) rfl rfl w.heap.size _ rfl rfl 67 _ HB0.out (by rw [infoArr]; simp [Hf.counts_len]) (by simp [Hf.counts_len]) (counts_one _) ?_))
              refine huff_ret l l w _ _ _ (fun _ => rfl) ?_ ((HB0.out.drewN _).setRow _) (below_setRow (Below_drewN hB _) (Nat.le_refl _) _) rfl rfl rfl
              exact HEE.out.1.trans HEE.out.2
end Go.Proofs.Ytcjdeinmmokdgaa
