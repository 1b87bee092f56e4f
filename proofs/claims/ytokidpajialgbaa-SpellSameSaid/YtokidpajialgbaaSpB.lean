/- squeallaw20: light, all: a truth value comes of each. Written by gen_spb.py. -/
import Derived.Test.YtokidpajialgbaaChecked
import Derived.Test.YtokidpajialgbaaSpA
import Derived.Test.YtokidpajialgbaaMemC
import Derived.Great.Ranges
import Derived.Deep.CutBlock
namespace Go.Proofs.Ytokidpajialgbaa
set_option linter.unusedSimpArgs false
set_option linter.unusedVariables false
open Go.RowKit
/-- some truth value -/
def BoolP (w : World) (e : Ending) (w' : World) : Prop := (∃ b : Bool, e = .returned (.bool b)) ∧ Below w.heap.size w w'
/-- some number -/
def IsInt (v : Value) : Prop := ∃ N : Int, v = .int .i64 N
set_option maxRecDepth 100000 in
set_option maxHeartbeats 8000000 in
theorem light_bool (cs : List Value) (B : TB) (w : World) (h : TBV w cs B) : Calls Try.prog 8 #[.agg cs.toArray] w (BoolP w) := by
  obtain ⟨_, d, t, i, p, s, r, hcs, ⟨Ad, cd, rfl, -, hd1, hd2, -⟩, ⟨At, ct, rfl, -, ht1, ht2, -⟩, ⟨Ai, ci, rfl, hi1, hi2, hi⟩, ⟨Ap, cp, rfl, hp1, hp2, hp⟩, ⟨As, cS, rfl, hs1, hs2, hs⟩, ⟨Ar, cr, rfl, hr1, hr2, -⟩⟩ := h
  obtain ⟨b, hb⟩ : ∃ b, b = w.heap.size := ⟨_, rfl⟩
  obtain ⟨w1, hw1⟩ : ∃ w1, w1 = w.alloc (.cells cs.toArray 28) := ⟨_, rfl⟩
  have hB1 : Blk w1 b 28 cs := by rw [hw1, hb]; exact Blk.new w _ _
  have hbel : Below w.heap.size w w1 := by rw [hw1]; exact (Below.refl _ w).alloc (Nat.le_refl _) _
  have HBB := Lib.hid hb; have HW1 := Lib.hid hw1; have HBEL := Lib.hid hbel
  have c12 : w1.cell? ⟨b, 12, none⟩ = some (.slice Ad B.data.length cd) := (hB1.cell 12).trans (by rw [hcs]; rfl)
  have c13 : w1.cell? ⟨b, 13, none⟩ = some (.slice At B.times.length ct) := (hB1.cell 13).trans (by rw [hcs]; rfl)
  have c14 : w1.cell? ⟨b, 14, none⟩ = some (.slice Ai B.items.length ci) := (hB1.cell 14).trans (by rw [hcs]; rfl)
  have c15 : w1.cell? ⟨b, 15, none⟩ = some (.slice Ap B.pilots.length cp) := (hB1.cell 15).trans (by rw [hcs]; rfl)
  have c16 : w1.cell? ⟨b, 16, none⟩ = some (.slice As B.syms.length cS) := (hB1.cell 16).trans (by rw [hcs]; rfl)
  have c17 : w1.cell? ⟨b, 17, none⟩ = some (.slice Ar B.reps.length cr) := (hB1.cell 17).trans (by rw [hcs]; rfl)
  have Hi : Hid (∀ k x, B.items[k]? = some x → ∃ (g o : Nat) (A : Option Addr) (c : Nat), Ai = some ⟨g, o, none⟩ ∧ w1.cell? ⟨g, o + k * 2 + 1, none⟩ = some (.slice A x.2.length c)) := Lib.hid (fun k x hx => by
    obtain ⟨-, g, o, rv, h1, h2, A, c, h3, -⟩ := hi k x hx
    have h7 := (rangeBelow h2 hbel) 1 rv rfl
    rw [h3] at h7
    exact ⟨g, o, A, c, h1, h7⟩)
  have Hp : Hid (∀ k x, B.pilots[k]? = some x → ∃ (g o : Nat) (A : Option Addr) (c : Nat), Ap = some ⟨g, o, none⟩ ∧ w1.cell? ⟨g, o + k * 2 + 1, none⟩ = some (.slice A x.2.length c)) := Lib.hid (fun k x hx => by
    obtain ⟨-, g, o, rv, h1, h2, A, c, h3, -⟩ := hp k x hx
    have h7 := (rangeBelow h2 hbel) 1 rv rfl
    rw [h3] at h7
    exact ⟨g, o, A, c, h1, h7⟩)
  have Hs : Hid (∀ k x, B.syms[k]? = some x → ∃ (g o : Nat) (A : Option Addr) (c : Nat), As = some ⟨g, o, none⟩ ∧ w1.cell? ⟨g, o + k * 2 + 1, none⟩ = some (.slice A x.2.length c)) := Lib.hid (fun k x hx => by
    obtain ⟨-, g, o, rv, h1, h2, A, c, h3, -⟩ := hs k x hx
    have h7 := (rangeBelow h2 hbel) 1 rv rfl
    rw [h3] at h7
    exact ⟨g, o, A, c, h1, h7⟩)
  obtain ⟨ld, hld⟩ : ∃ x, x = B.data.length := ⟨_, rfl⟩
  rw [← hld] at c12
  obtain ⟨lt, hlt⟩ : ∃ x, x = B.times.length := ⟨_, rfl⟩
  rw [← hlt] at c13
  obtain ⟨lr, hlr⟩ : ∃ x, x = B.reps.length := ⟨_, rfl⟩
  rw [← hlr] at c17
  obtain ⟨li, hli⟩ : ∃ x, x = B.items.length := ⟨_, rfl⟩
  rw [← hli] at c14
  obtain ⟨lp, hlp⟩ : ∃ x, x = B.pilots.length := ⟨_, rfl⟩
  rw [← hlp] at c15
  obtain ⟨ls, hls⟩ : ∃ x, x = B.syms.length := ⟨_, rfl⟩
  rw [← hls] at c16
  have HLI := Lib.hid hli; have HLP := Lib.hid hlp; have HLS := Lib.hid hls
  have m0 : maxLen = 9223372036854775807 := rfl
  have HM : Hid (li ≤ 9223372036854775807 ∧ lp ≤ 9223372036854775807 ∧ ls ≤ 9223372036854775807) := Lib.hid ⟨by omega, by omega, by omega⟩
  clear hd1 hd2 ht1 ht2 hi1 hi2 hi hp1 hp2 hp hs1 hs2 hs hr1 hr2 hcs hb hw1 hB1 hbel hld hlt hlr hli hlp hls m0
  go_enter Try.func8, Try.ntmps8
  go_upto_region 1 with (first
    | (refine Great.wpList_boxTo rfl 28 (.tmp 0) rfl (some 1) rfl b HBB.out.symm cs.toArray rfl ?_; rw [← HW1.out]))
  go_wp2_with fail
  go_loopw [3, 4] (fun v idx wr => ∃ (k : Nat), idx = .int .i64 k ∧ IsInt v ∧ k ≤ li ∧ w1 = wr) (fun _ idx _ => li - (intOf idx).toNat)
  case atStart => exact ⟨0, rfl, ⟨_, rfl⟩, Nat.zero_le _, rfl⟩
  case round =>
    obtain ⟨k, rfl, ⟨N0, rfl⟩, hk, rfl⟩ := hrel
    by_cases hlt : k < li ∧ N0 < 100000
    · obtain ⟨hlt, hN⟩ := hlt
      have hlt2 : (k : Int) < li := by omega
      obtain ⟨x, hx⟩ : ∃ x, B.items[k]? = some x := ⟨_, List.getElem?_eq_getElem (by rw [← HLI.out]; exact hlt)⟩
      obtain ⟨g, o, A, c, rfl, hc⟩ := Hi.out k x hx
      have v2 : IntKind.i64.wrap ((k : Int) + 1) = ((k + 1 : Nat) : Int) := by rw [IntKind.wrap_i64]; have := HM.out; omega
      clear hx
      go_wp2_with fail
      go_roundw
      case rel => exact ⟨k + 1, by go_num, ⟨_, rfl⟩, by omega, by first | trivial | rfl⟩
      case measure => simp [intOf]; omega
    · have hor : (¬ (k : Int) < li) ∨ ((k : Int) < li ∧ ¬ N0 < 100000) := by omega
      clear hlt hk
      rcases hor with hq | ⟨hq, hq2⟩
      all_goals
        go_wp2_with fail
        try clear hq
        try clear hq2
        go_loopw [3, 5] (fun v idx wr => ∃ (k : Nat), idx = .int .i64 k ∧ IsInt v ∧ k ≤ lp ∧ w1 = wr) (fun _ idx _ => lp - (intOf idx).toNat)
        case atStart => exact ⟨0, rfl, ⟨_, rfl⟩, Nat.zero_le _, rfl⟩
        case round =>
          obtain ⟨k, rfl, ⟨N1, rfl⟩, hk, rfl⟩ := hrel
          by_cases hlt : k < lp ∧ N1 < 100000
          · obtain ⟨hlt, hN⟩ := hlt
            have hlt2 : (k : Int) < lp := by omega
            obtain ⟨x, hx⟩ : ∃ x, B.pilots[k]? = some x := ⟨_, List.getElem?_eq_getElem (by rw [← HLP.out]; exact hlt)⟩
            obtain ⟨g, o, A, c, rfl, hc⟩ := Hp.out k x hx
            have v2 : IntKind.i64.wrap ((k : Int) + 1) = ((k + 1 : Nat) : Int) := by rw [IntKind.wrap_i64]; have := HM.out; omega
            clear hx
            go_wp2_with fail
            go_roundw
            case rel => exact ⟨k + 1, by go_num, ⟨_, rfl⟩, by omega, by first | trivial | rfl⟩
            case measure => simp [intOf]; omega
          · have hor : (¬ (k : Int) < lp) ∨ ((k : Int) < lp ∧ ¬ N1 < 100000) := by omega
            clear hlt hk
            rcases hor with hq | ⟨hq, hq2⟩
            all_goals
              go_wp2_with fail
              try clear hq
              try clear hq2
              go_loopw [3, 6] (fun v idx wr => ∃ (k : Nat), idx = .int .i64 k ∧ IsInt v ∧ k ≤ ls ∧ w1 = wr) (fun _ idx _ => ls - (intOf idx).toNat)
              case atStart => exact ⟨0, rfl, ⟨_, rfl⟩, Nat.zero_le _, rfl⟩
              case round =>
                obtain ⟨k, rfl, ⟨N2, rfl⟩, hk, rfl⟩ := hrel
                by_cases hlt : k < ls ∧ N2 < 100000
                · obtain ⟨hlt, hN⟩ := hlt
                  have hlt2 : (k : Int) < ls := by omega
                  obtain ⟨x, hx⟩ : ∃ x, B.syms[k]? = some x := ⟨_, List.getElem?_eq_getElem (by rw [← HLS.out]; exact hlt)⟩
                  obtain ⟨g, o, A, c, rfl, hc⟩ := Hs.out k x hx
                  have v2 : IntKind.i64.wrap ((k : Int) + 1) = ((k + 1 : Nat) : Int) := by rw [IntKind.wrap_i64]; have := HM.out; omega
                  clear hx
                  go_wp2_with fail
                  go_roundw
                  case rel => exact ⟨k + 1, by go_num, ⟨_, rfl⟩, by omega, by first | trivial | rfl⟩
                  case measure => simp [intOf]; omega
                · have hor : (¬ (k : Int) < ls) ∨ ((k : Int) < ls ∧ ¬ N2 < 100000) := by omega
                  clear hlt hk
                  rcases hor with hq | ⟨hq, hq2⟩
                  all_goals
                    go_wp2_with fail
                    go_ret
                    exact ⟨⟨_, rfl⟩, HBEL.out⟩
end Go.Proofs.Ytokidpajialgbaa
