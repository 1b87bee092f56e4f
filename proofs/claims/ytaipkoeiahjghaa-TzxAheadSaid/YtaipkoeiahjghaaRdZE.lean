/- The laws of stage 19: TzxAhead, a fault that stays. -/
import Derived.Test.YtaipkoeiahjghaaRdZD
namespace Go.Proofs.Ytaipkoeiahjghaa
set_option linter.unusedSimpArgs false
set_option linter.unusedVariables false
open Go.RowKit
set_option maxHeartbeats 4000000 in
theorem ahead_same (A C : Option Addr) (n c q d : Nat) (D M : List Int) (w : World) (E p : Int) (hi : Ints w A .u8 D) (hn : D.length = n) (hA : A = none → n = 0 ∧ c = 0) (hm : Ints w C .u8 M) (hq : M.length = q) (hC : C = none → q = 0 ∧ d = 0)
    (HP : Hid (∀ (u : World), Below w.heap.size w u → Calls Try.prog 15 #[.slice A n c] u (FaultP E p u)))
    (HP2 : Hid (∀ (u : World) (B : Option Addr) (k : Nat), Ints u B .u8 (D ++ M) → n + q ≤ k → Calls Try.prog 15 #[.slice B (n + q) k] u (FaultP E p u)))
    (k1 : ¬ (6000 : Int) < n) (k2 : ¬ (1000 : Int) < q) (hp0 : ¬ p < 0) (hp1 : ¬ (n : Int) < p) (e2 : (E == 2) = false) (e8 : (E == 8) = false) (e6 : (E == 6) = false) (e5 : (E == 5) = false) (e3 : (E == 3) = false ∨ E = 3 ∧ ¬ (n : Int) < 8) :
    Calls Try.prog 5 #[.slice A n c, .slice C q d] w (Yes w) := by
  have HLV := Lib.hid lives19
  have ha := fun (f : Nat) (u : World) => assert_fault (.pointer (some ⟨f, 0, none⟩)) u
  have HI := Lib.hid hi; have HM := Lib.hid hm; have HNi := Lib.hid hn; have HQ := Lib.hid hq; have HA := Lib.hid hA; have HC := Lib.hid hC
  have kn : n ≤ 6000 := by omega
  have kq : q ≤ 1000 := by omega
  clear hi hm hn hq hA hC
  rcases e3 with e3 | ⟨rfl, k3⟩
  all_goals
    go_enter Try.func5, Try.ntmps5
    go_upto_region 13 with (first
      | (go_at_call 15
         refine (HP.out _ (Below.refl _ _)).mono ?_
         rintro e w2 ⟨f2, rfl, hf2, hb2⟩
         have HV2 := Lib.hid (Blk.new w2 43 [.int .i64 0, .int .i64 0, .slice none 0 0])
         have HF2 : Hid (Blk (w2.alloc (.cells #[.int .i64 0, .int .i64 0, .slice none 0 0] 43)) f2 51 [_, .int .i64 p]) := Lib.hid (hf2.alloc _)
         have v52' := HV2.out.cell 2
         have v50' := HF2.out.cell 0
         have v51' := HF2.out.cell 1
         have v52 := fun q => (HV2.out.drewN q).cell 2
         have v50 := fun q => (HF2.out.drewN q).cell 0
         have v51 := fun q => (HF2.out.drewN q).cell 1
         have HB2 := Lib.hid (hb2.alloc hb2.size (.cells #[.int .i64 0, .int .i64 0, .slice none 0 0] 43))
         clear hf2 hb2))
    obtain ⟨w3, hw3⟩ : ∃ w3, w3 = w2.alloc (.cells #[.int .i64 0, .int .i64 0, .slice none 0 0] 43) := ⟨_, rfl⟩
    rw [← hw3] at HB2 HF2 ⊢
    clear v52' v50' v51' v52 v50 v51 HV2 hw3
    have hs3 := HB2.out.size
    go_wp2_with (first
      | (go_at_call 6
         refine (HLV.out _).mono ?_; rintro e w8 ⟨rfl, hb8⟩)
      | (go_at_call 16; refine (why_fault f6 _ p _ HF6'.out).mono ?_; rintro e w7 ⟨rfl, q7, rfl⟩)
      | (go_at_call 15
         refine (HP2.out _ _ _ HI5.out hc5).mono ?_
         rintro e w6 ⟨f6, rfl, hf6, hb6⟩
         have HF6' := Lib.hid (hf6.alloc (.cells #[.int .i64 0, .int .i64 0, .slice none 0 0] 43))
         have HB6 := Lib.hid ((HB5.out.trans (hb6.mono HB5.out.size)).alloc (by have := HB5.out.size; have := hb6.size; omega) (.cells #[.int .i64 0, .int .i64 0, .slice none 0 0] 43))
         have HF6 := Lib.hid (HF2.out.below_ HB6.out)
         have v50 := fun q => (HF6.out.drewN q).cell 0
         have v51 := fun q => (HF6.out.drewN q).cell 1
         have v50' := HF6.out.cell 0
         have v51' := HF6.out.cell 1
         clear hf6 hb6)
      | (at_builtin
         refine wpList_appAny w4 (by rfl) (.tmp 116) (.tmp 117) 25 (by rfl) w3.heap.size 5 (.int .u8 0) 1 Try.underlying25 infoByteZ rfl _ n (D.map (.int .u8)) (by rfl) HO4.out C q d (M.map (.int .u8)) (by rfl) (by rw [List.length_map]; exact HQ.out) (HM.out.below (HB2.out.trans (HB4.out.mono hs3))) HC.out (fun u hu => by obtain ⟨x, -, rfl⟩ := List.mem_map.1 hu; rfl) (by unfold maxLen; omega) (by omega) HB4.out.size ?_
         intro v5 w5 ho5 hg5
         obtain ⟨A5, c5, rfl, hc5', hc5, -⟩ := cells_own1 ho5
         have HI5 : Hid (Ints w5 A5 .u8 (D ++ M)) := Lib.hid (by unfold Ints; rw [List.map_append]; exact hc5')
         have HB5 := Lib.hid (Below_own HB4.out HO4.out hg5 (Nat.le_refl _) HB4.out.size)
         clear ho5 hg5 hc5')
      | (at_builtin
         refine wpList_appAny w3 (by rfl) (.tmp 114) (.tmp 115) 25 (by rfl) w3.heap.size 5 (.int .u8 0) 1 Try.underlying25 infoByteZ rfl (.slice none 0 0) 0 [] (by rfl) (World.ownsRow_nil _ _ _ _) A n c (D.map (.int .u8)) (by rfl) (by rw [List.length_map]; exact HNi.out) (HI.out.below HB2.out) HA.out (fun u hu => by obtain ⟨x, -, rfl⟩ := List.mem_map.1 hu; rfl) (by unfold maxLen; omega) (by omega) (Nat.le_refl _) ?_
         rw [Nat.zero_add, List.nil_append]
         intro v4 w4 ho4 hg4
         have HO4 := Lib.hid ho4
         have HB4 : Hid (Below w3.heap.size w3 w4) := Lib.hid (below_of_none hg4)
         obtain ⟨A4, c4, rfl⟩ := own_form ho4
         clear ho4 hg4))
    go_ret
    have hb7 := Below_drewN (HB2.out.trans (HB6.out.mono hs3)) q7
    exact ⟨rfl, hb7.trans (hb8.mono hb7.size)⟩
set_option maxHeartbeats 4000000 in
theorem tzxAhead_any (A C : Option Addr) (n c q d : Nat) (D M : List Int) (w : World) (hi : Ints w A .u8 D) (hb : Byts D) (hn : D.length = n) (hc : n ≤ c) (hA : A = none → n = 0 ∧ c = 0) (hm : Ints w C .u8 M) (hbm : Byts M) (hq : M.length = q) (hC : C = none → q = 0 ∧ d = 0) :
    Calls Try.prog 5 #[.slice A n c, .slice C q d] w (Yes w) := by
  by_cases k : (6000 : Int) < n ∨ (1000 : Int) < q
  · exact ahead_long A C n c q d w k
  have k1 : ¬ (6000 : Int) < n := by omega
  have k2 : ¬ (1000 : Int) < q := by omega
  cases hD : Rd.parseD D with
  | tape maj min l => exact ahead_tape A C n c q d D w hi hb hn hc k1 k2 maj min l hD
  | fault E p =>
    have hp := Rd.parse_placed D E p hD
    have HP : Hid (∀ (u : World), Below w.heap.size w u → Calls Try.prog 15 #[.slice A n c] u (FaultP E p u)) := Lib.hid fun u hu => parse_fault A n c D u (hi.below hu) hb hn hc E p hD
    by_cases hE : E = 2 ∨ E = 8 ∨ E = 6 ∨ E = 5 ∨ E = 3 ∧ (n : Int) < 8
    · exact ahead_lives A C n c q d w E p HP k1 k2 (by omega) (by omega) hE
    · have hf : ∀ k : Int, E ≠ k → (E == k) = false := fun k h => by simpa using h
      have hM : (D ++ M).length = n + q := by rw [List.length_append, hn, hq]
      have hD2 := Rd.parse_ahead D M E p hD ⟨by omega, by omega, by omega, by omega⟩ (by rw [hn]; omega) (by rw [hM]; omega)
      refine ahead_same A C n c q d D M w E p hi hn hA hm hq hC HP (Lib.hid fun u B k hu hk => parse_fault B (n + q) k (D ++ M) u hu (fun x hx => ?_) hM hk E p hD2) k1 k2 (by omega) (by omega) (hf _ (by omega)) (hf _ (by omega)) (hf _ (by omega)) (hf _ (by omega)) ?_
      · rcases List.mem_append.1 hx with h | h
        · exact hb x h
        · exact hbm x h
      · by_cases h3 : E = 3
        · exact .inr ⟨h3, by omega⟩
        · exact .inl (hf _ h3)
end Go.Proofs.Ytaipkoeiahjghaa
