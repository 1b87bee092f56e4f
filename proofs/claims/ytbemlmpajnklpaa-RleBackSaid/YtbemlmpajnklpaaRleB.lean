/- rle.Times; squealref21.Times; same. -/
import Derived.Test.YtbemlmpajnklpaaRows
import Derived.Test.YtbemlmpajnklpaaMemC
import Derived.Test.YtbemlmpajnklpaaFrm
import Derived.BigQuiet
import Derived.Deep.QuietTactic
namespace Go.Proofs.Ytbemlmpajnklpaa
set_option linter.unusedSimpArgs false
set_option linter.unusedVariables false
open Go.RowKit
namespace Rl
def clamp (k : Int) : Int := if k < 0 then 0 else if 4294967295 < k then 4294967295 else k
def badK (left k : Int) : Bool := decide (k < 0 ∨ 4294967295 < k ∨ left - clamp k < 0)
/-- does any run lie outside, or do they last too long? -/
def scan : Int → List Int → Bool
  | _, [] => false
  | left, k :: t => badK left k || scan (left - clamp k) t
def steps (rate : Int) : Int → Int → List Int → List Int
  | _, _, [] => []
  | n, was, k :: t => ((n + k) * 3500000 / rate - was) :: steps rate (n + k) ((n + k) * 3500000 / rate) t
theorem clamp_range (k : Int) : 0 ≤ clamp k ∧ clamp k ≤ 4294967295 := by unfold clamp; split; omega; split <;> omega
end Rl
set_option maxHeartbeats 1000000 in
theorem clos_any (k left : Int) (g : Nat) (w : World) (hc : w.cell? ⟨g, 0, none⟩ = some (.int .i64 left)) (hf : w.frozen? ⟨g, 0, none⟩ = false) (h0 : -4611686018427387904 ≤ left) (h1 : left ≤ 4611686018427387904) :
    Calls Try.prog 13 #[.int .i64 k, .pointer (some ⟨g, 0, none⟩)] w fun e w' => e = .returned (.bool (Rl.badK left k)) ∧ w' = w.setCell ⟨g, 0, none⟩ (.int .i64 (left - Rl.clamp k)) := by
  by_cases k0 : k < 0
  · have e1 : Rl.clamp k = 0 := by unfold Rl.clamp; rw [if_pos k0]
    have e2 : Rl.badK left k = true := by unfold Rl.badK; simp [k0]
    rw [e1, e2]
    clear e1 e2
    go_enter Try.func13, Try.ntmps13
    go_wp2_with fail
    go_ret
    exact ⟨rfl, by simp⟩
  · by_cases k1 : 4294967295 < k
    · have e1 : Rl.clamp k = 4294967295 := by unfold Rl.clamp; rw [if_neg k0, if_pos k1]
      have e2 : Rl.badK left k = true := by unfold Rl.badK; simp [k1]
      rw [e1, e2]
      clear e1 e2
      go_enter Try.func13, Try.ntmps13
      go_wp2_with fail
      go_ret
      exact ⟨rfl, rfl⟩
    · have e1 : Rl.clamp k = k := by unfold Rl.clamp; rw [if_neg k0, if_neg k1]
      have e2 : Rl.badK left k = decide (left - k < 0) := by unfold Rl.badK; rw [e1]; simp [k0, k1]
      rw [e1, e2]
      clear e1 e2
      go_enter Try.func13, Try.ntmps13
      go_wp2_with fail
      all_goals
        go_ret
        first
          | exact ⟨rfl, rfl⟩
          | (obtain rfl : k = 0 := by omega
             exact ⟨by simp, by simp⟩)
/-- a search by the closure: is there a bad run; what is left lies in block g -/
def Scanned (g : Nat) (left : Int) (l : List Int) (w : World) (e : Ending) (w' : World) : Prop := ∃ j : Int, e = .returned (.int .i64 j) ∧ (Rl.scan left l = true ↔ 0 ≤ j) ∧ -1 ≤ j ∧ w.grownBy w' (some g)
set_option maxHeartbeats 2000000 in
theorem indexFunc_any (g : Nat) (A : Option Addr) (n c : Nat) (left : Int) (l : List Int) (w : World) (hl : Ints w A .i64 l) (hn : l.length = n) (hn1 : n ≤ 1000) (hA : ∀ ad, A = some ad → l = [] ∨ ad.block ≠ g)
    (hb : Blk w g 3 [.int .i64 left]) (h0 : 0 ≤ left) (h1 : left ≤ 274877906944) :
    Calls Try.prog 19 #[.slice A n c, .func (.func 13) #[] #[.pointer (some ⟨g, 0, none⟩)]] w (Scanned g left l w) := by
  have HL := Lib.hid hl; have HN := Lib.hid hn; have HA := Lib.hid hA
  have HB0 := Lib.hid hb
  clear hl hn hA hb
  go_enter Try.func19, Try.ntmps19
  go_wp2_with fail
  go_loopw [8] (fun i wr => ∃ (k : Nat) (y : Int), k ≤ n ∧ i = .int .i64 k ∧ Hid (Blk wr g 3 [.int .i64 y]) ∧ Hid (w.grownBy wr (some g)) ∧ Hid (Rl.scan left l = Rl.scan y (l.drop k)) ∧ y ≤ left ∧ left - 4294967295 * k ≤ y) (fun i _ => n - (intOf i).toNat)
  case atStart => exact ⟨0, left, by omega, rfl, HB0, grownBy_refl w _, rfl, by omega, by omega⟩
  case round =>
    obtain ⟨k, y, hk, rfl, HB, HG, HS, hy0, hy1⟩ := hrel
    by_cases hlt : k < n
    · obtain ⟨x, hx⟩ : ∃ x, l[k]? = some x := ⟨_, List.getElem?_eq_getElem (by rw [HN.out]; exact hlt)⟩
      have hlw := Cells.grown HL.out HG.out (fun ad h => (HA.out ad h).imp (fun e => by simp [e]) id)
      obtain ⟨ad, rfl, hc⟩ := hlw k (.int .i64 x) (by simp [hx])
      have hdrop : l.drop k = x :: l.drop (k + 1) := by
        rw [List.drop_eq_getElem_cons (by rw [HN.out]; exact hlt)]
        rw [List.getElem?_eq_getElem (by rw [HN.out]; exact hlt)] at hx
        injection hx with hx
        rw [hx]
      have HS2 : Hid (Rl.scan left l = (Rl.badK y x || Rl.scan (y - Rl.clamp x) (l.drop (k + 1)))) := by
        show _ = _
        rw [HS.out, hdrop]
        rfl
      have hcl := Rl.clamp_range x
      have HCT := Lib.hid (fun u h1 h2 => clos_any x y g u h1 h2 (by omega) (by omega))
      have cg : wr.cell? ⟨g, 0, none⟩ = some (.int .i64 y) := HB.out.cell 0
      have fg := HB.out.frozen 0
      clear hx hlw hdrop
      cases hbk : Rl.badK y x with
      | true =>
        rw [hbk] at HCT HS2
        clear hbk
        go_wp2_with (first
          | (go_at_call 13; refine (HCT.out _ cg fg).mono ?_; rintro e w2 ⟨rfl, rfl⟩))
        go_ret
        exact ⟨k, rfl, by rw [HS2.out]; simp, by omega, grownBy_setCell HG.out 0 _⟩
      | false =>
        rw [hbk] at HCT HS2
        clear hbk
        go_wp2_with (first
          | (go_at_call 13; refine (HCT.out _ cg fg).mono ?_; rintro e w2 ⟨rfl, rfl⟩))
        go_roundw
        case rel => exact ⟨k + 1, y - Rl.clamp x, by omega, by go_num, HB.out.set_ 0 _, grownBy_setCell HG.out 0 _, by show _ = _; rw [HS2.out]; simp, by omega, by omega⟩
        case measure => simp [intOf]; omega
    · obtain rfl : k = n := by omega
      have HF : Hid (Rl.scan left l = false) := by
        show _ = _
        rw [HS.out, List.drop_of_length_le (by rw [HN.out]; omega)]
        rfl
      go_wp2_with fail
      go_ret
      exact ⟨-1, rfl, by rw [HF.out]; simp, by omega, HG.out⟩
set_option maxHeartbeats 1000000 in
theorem contains_any (g : Nat) (A : Option Addr) (n c : Nat) (left : Int) (l : List Int) (w : World) (hl : Ints w A .i64 l) (hn : l.length = n) (hn1 : n ≤ 1000) (hA : ∀ ad, A = some ad → l = [] ∨ ad.block ≠ g)
    (hb : Blk w g 3 [.int .i64 left]) (h0 : 0 ≤ left) (h1 : left ≤ 274877906944) :
    Calls Try.prog 12 #[.slice A n c, .func (.func 13) #[] #[.pointer (some ⟨g, 0, none⟩)]] w fun e w' => e = .returned (.bool (Rl.scan left l)) ∧ w.grownBy w' (some g) := by
  have HC := Lib.hid (indexFunc_any g A n c left l w hl hn hn1 hA hb h0 h1)
  clear hl hn hA hb
  cases hs : Rl.scan left l with
  | true =>
    have HC2 : Hid (Calls Try.prog 19 #[.slice A n c, .func (.func 13) #[] #[.pointer (some ⟨g, 0, none⟩)]] w fun e w' => ∃ j : Int, e = .returned (.int .i64 j) ∧ 0 ≤ j ∧ w.grownBy w' (some g)) :=
      HC.out.mono fun e w' ⟨j, h1, h2, h3, h4⟩ => ⟨j, h1, h2.1 hs, h4⟩
    clear hs HC
    go_enter Try.func12, Try.ntmps12
    go_wp2_with (first
      | (go_at_call 19; refine (HC2.out).mono ?_; rintro e w2 ⟨j, rfl, hj, hg⟩))
    go_ret
    exact ⟨rfl, hg⟩
  | false =>
    have HC2 : Hid (Calls Try.prog 19 #[.slice A n c, .func (.func 13) #[] #[.pointer (some ⟨g, 0, none⟩)]] w fun e w' => e = .returned (.int .i64 (-1)) ∧ w.grownBy w' (some g)) :=
      HC.out.mono fun e w' ⟨j, h1, h2, h3, h4⟩ => ⟨by
        have : ¬ 0 ≤ j := fun h => by rw [h2.2 h] at hs; cases hs
        obtain rfl : j = -1 := by omega
        exact h1, h4⟩
    clear hs HC
    go_enter Try.func12, Try.ntmps12
    go_wp2_with (first
      | (go_at_call 19; refine (HC2.out).mono ?_; rintro e w2 ⟨rfl, hg⟩))
    go_ret
    exact ⟨rfl, hg⟩
end Go.Proofs.Ytbemlmpajnklpaa
