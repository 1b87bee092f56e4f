/- AsmDelays: lives; what may be waited, the document's. -/
import Derived.Test.YtifgikjmfmkgeaaGreatDAsm
import Derived.Laws.BytesString
namespace Go.Proofs.YtifgikjmfmkgeaaGreat
set_option linter.unusedSimpArgs false
set_option linter.unusedVariables false
open Go.RowKit Go.Maps Go.Sort
set_option maxHeartbeats 1000000 in
theorem May28 (n : Int) (w : World) : Calls Tryz.prog 8 #[.int .i64 n] w fun e w' => e = .returned (.bool (mayB n)) ∧ w = w' := by
  go_enter Tryz.func8, Tryz.ntmps8
  by_cases h : n = 0 ∨ n = 4 ∨ n = 7 ∨ n = 8 ∨ n = 10 ∨ n = 11 ∨ n = 12
  · have hm : mayB n = true := by unfold mayB; simp; omega
    rw [hm]
    rcases h with rfl | rfl | rfl | rfl | rfl | rfl | rfl
    all_goals
      go_wp2_with fail
      go_ret
      exact ⟨rfl, rfl⟩
  · have h0 : ¬ n = 0 := by omega
    have h1 : ¬ n = 4 := by omega
    have h2 : ¬ n = 7 := by omega
    have h3 : ¬ n = 8 := by omega
    have h4 : ¬ n = 10 := by omega
    have h5 : ¬ n = 11 := by omega
    have h6 : ¬ n = 12 := by omega
    by_cases h7 : 14 ≤ n
    · by_cases h8 : n ≤ 1000000
      · have hm : mayB n = true := by unfold mayB; simp; omega
        rw [hm]
        go_wp2_with fail
        go_ret
        exact ⟨rfl, rfl⟩
      · have hm : mayB n = false := by unfold mayB; simp; omega
        rw [hm]
        go_wp2_with fail
        go_ret
        refine ⟨?_, rfl⟩
        show Ending.returned (.bool (n == 0 || n == 4 || n == 7 || n == 8 || n == 10 || n == 11 || n == 12)) = _
        rw [show (n == 0 || n == 4 || n == 7 || n == 8 || n == 10 || n == 11 || n == 12) = false by simp [h0, h1, h2, h3, h4, h5, h6]]
    · have hm : mayB n = false := by unfold mayB; simp; omega
      rw [hm]
      go_wp2_with fail
      go_ret
      refine ⟨?_, rfl⟩
      show Ending.returned (.bool (n == 0 || n == 4 || n == 7 || n == 8 || n == 10 || n == 11 || n == 12)) = _
      rw [show (n == 0 || n == 4 || n == 7 || n == 8 || n == 10 || n == 11 || n == 12) = false by simp [h0, h1, h2, h3, h4, h5, h6]]
def txt8 (l : List Int) : ByteArray := ⟨(l.map (fun x => UInt8.ofNat x.toNat)).toArray⟩
theorem push_all8 : ∀ (l : List Int) (b : ByteArray), l.foldl (fun r n => r.push (UInt8.ofNat n.toNat)) b = ⟨(b.data.toList ++ l.map (fun x => UInt8.ofNat x.toNat)).toArray⟩
  | [], b => by simp
  | x :: l, b => by
    rw [List.foldl_cons, push_all8 l]
    congr 1
    simp [ByteArray.push]
theorem conv_ints (w : World) (K : Option Addr) (n c : Nat) (l : List Int) (h : Ints w K .u8 l) (hn : l.length = n) :
    (convert 29 9 (.slice K n c)).run Tryz.prog w = .ok (.string (txt8 l)) w := by
  rw [run_convert_bytes_string w 29 9 5 _ n c Tryz.underlying29 Tryz.underlying5 Tryz.underlying9]
  cases K with
  | none =>
    cases l with
    | nil =>
      simp at hn
      subst hn
      rfl
    | cons x t =>
      obtain ⟨ad, e, _⟩ := h 0 (.int .u8 x) rfl
      cases e
  | some ad =>
    have hl := run_loadCells_list (P := Tryz.prog) w ad (l.map (.int .u8 ·)) (fun j v hv => by
      obtain ⟨a', e, hc⟩ := h j v hv
      injection e with e
      subst e
      exact hc)
    rw [List.length_map, hn] at hl
    rw [run_bytesToString w _ n c l hl, push_all8]
    rfl
def Yes (w : World) (e : Ending) (w' : World) : Prop := e = .returned (.bool true) ∧ Below w.heap.size w w'
def xName : ByteArray := ⟨#[120]⟩
def liveD : AsmD := fillF (markF (newD 100) xName) xName true [24]
theorem liveD_done : doneF liveD = (0, [24, 254]) := by decide +kernel
theorem live_done {w w' : World} {e : Ending} (h : DoneR liveD w e w') : ∃ A c, e = .returned (.tuple #[.slice A 2 c, .int .i64 0]) ∧ Ints w' A .u8 [24, 254] ∧ Below w.heap.size w w' := by
  obtain ⟨h4, hb4⟩ := h
  rw [liveD_done] at h4
  rcases h4 with ⟨h4, _⟩ | ⟨_, A4, n4, c4, rfl, hi4, hn4, _⟩
  · exact absurd rfl h4
  · obtain rfl : n4 = 2 := hn4.symm
    exact ⟨A4, c4, rfl, hi4, hb4⟩
theorem liveI : AsmI liveD 1 := ((AsmI.new (by omega) (by omega)).markF _).fillF _ (by decide) true (fun x hx => by simp at hx; omega)
set_option maxRecDepth 100000 in
set_option maxHeartbeats 4000000 in
theorem lives28 (w : World) : Calls Tryz.prog 4 #[] w (Yes w) := by
  have HNEW := Lib.hid (asm_new 100 (by omega) (by omega) w)
  go_enter Tryz.func4, Tryz.ntmps4
  have hck : (txt8 [24, 254]) = ⟨#[24, 254]⟩ := rfl
  go_upto_region 5 with (first
    | (go_at_call 5; refine HNEW.out.mono ?_; rintro e w1 ⟨P, M, rfl, h1, hb1⟩; have HS1 := Lib.hid h1; have HB1 := Lib.hid hb1; clear h1 hb1)
    | (go_at_call 11; refine (asm_mark w.heap.size P M 0 0 (newD 100) xName w1 HS1.out (AsmI.new (by omega) (by omega)).ok (by decide) (by omega)).mono ?_; rintro e w2 ⟨rfl, h2, hb2⟩; have HS2 := Lib.hid h2; have HB2 := Lib.hid (HB1.out.trans hb2.below); clear h2 hb2)
    | (go_at_call 12; refine (asm_near w.heap.size P M 1 0 _ xName 24 w2 HS2.out ((AsmI.new (by omega) (by omega)).markF _).ok (by omega)).mono ?_; rintro e w3 ⟨rfl, h3, hb3⟩; have HS3 := Lib.hid h3; have HB3 := Lib.hid (HB2.out.trans hb3.below); clear h3 hb3)
    | (go_at_call 7; refine (asm_Done w.heap.size P M 1 1 liveD w3 HS3.out liveI.ok (by omega) liveI.td).mono ?_; rintro e w4 h4; obtain ⟨A4, c4, rfl, hi4, hb4⟩ := live_done h4; have HI4 := Lib.hid hi4; have HB4 := Lib.hid (HB3.out.trans (hb4.mono HB3.out.size)); clear hi4 hb4 h4))
  have hcv := conv_ints w4 A4 2 c4 [24, 254] HI4.out rfl
  rw [hck] at hcv
  go_wp2_with fail
  go_ret
  exact ⟨rfl, HB4.out⟩
end Go.Proofs.YtifgikjmfmkgeaaGreat
