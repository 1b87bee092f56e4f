/- squeallaw20.all: a truth value comes of it. -/
import Derived.Test.YtokidpajialgbaaSpB
import Derived.Deep.MidRow
import Derived.Sort.AtCall
import Derived.Deep.DeepCutAuto
namespace Go.Proofs.Ytokidpajialgbaa
set_option linter.unusedSimpArgs false
set_option linter.unusedVariables false
open Go.RowKit
theorem infoBlkS : (Try.prog.info? 28).map (·.size) = some 18 := by kernel_rfl
theorem TBV.info {w : World} {cs : List Value} {B : TB} (h : TBV w cs B) : (Try.prog.info? 28).map (·.size) = some cs.length := by rw [infoBlkS, h.len]
set_option maxRecDepth 100000 in
set_option maxHeartbeats 4000000 in
theorem all_bool (v : Value) (l : List TB) (w : World) (h : BlksV w v l) : Calls Try.prog 12 #[v] w (BoolP w) := by
  obtain ⟨A, c, rfl, h1, h2, h3⟩ := h
  have HL := Lib.hid h3
  obtain ⟨n, hn⟩ : ∃ n, n = l.length := ⟨_, rfl⟩
  rw [← hn] at h1 ⊢
  have HN := Lib.hid hn
  have m0 : maxLen = 9223372036854775807 := rfl
  have hn2 : n ≤ 9223372036854775807 := by omega
  clear h1 h2 h3 hn m0
  go_enter Try.func12, Try.ntmps12
  go_upto_region 1 with fail
  go_cut [11] (fun t wx => ∃ b : Bool, Hid (t = .bool b) ∧ w = wx)
  case first =>
    by_cases k1 : (100 : Int) < n
    all_goals
      go_wp2_with fail
      go_meet
      exact ⟨_, Lib.hid rfl, rfl⟩
  case rest =>
    obtain ⟨bad, HT, rfl⟩ := hcut
    have ht := HT.out
    subst ht
    cases bad
    case true =>
      go_wp2_with fail
      go_ret
      exact ⟨⟨_, rfl⟩, Below.refl _ _⟩
    case false =>
      go_wp2_with fail
      go_loopw [3] (fun idx wr => ∃ (k : Nat), idx = .int .i64 k ∧ k ≤ n ∧ Hid (Below w.heap.size w wr)) (fun idx _ => n - (intOf idx).toNat)
      case atStart => exact ⟨0, rfl, Nat.zero_le _, Lib.hid (Below.refl _ _)⟩
      case round =>
        obtain ⟨k, rfl, hk, HB⟩ := hrel
        by_cases hlt : k < n
        · have hlt2 : (k : Int) < n := by omega
          obtain ⟨B, hB⟩ : ∃ x, l[k]? = some x := ⟨_, List.getElem?_eq_getElem (by rw [← HN.out]; exact hlt)⟩
          obtain ⟨g, o, cs, rfl, hr, ht⟩ := HL.out k B hB
          have HR : Hid (wr.rangeAt g (o + k * 18) cs) := Lib.hid (rangeBelow hr HB.out)
          have HT : Hid (TBV wr cs B) := Lib.hid (ht.below HB.out)
          have HI := Lib.hid ht.info
          have v2 : IntKind.i64.wrap ((k : Int) + 1) = ((k + 1 : Nat) : Int) := by rw [IntKind.wrap_i64]; omega
          clear hr ht hB
          go_wp2_with (first
            | (refine wpList_load_mid rfl 28 (.tmp 20) rfl g (o + k * 18) rfl cs _ HR.out Try.underlying28 rfl HI.out ?_)
            | (go_at_call 8; refine (light_bool cs B _ HT.out).mono ?_; rintro e w2 ⟨⟨b, rfl⟩, hb2⟩; have HB2 : Hid (Below w.heap.size w w2) := Lib.hid (HB.out.trans (hb2.mono HB.out.size)); clear hb2; cases b))
          · go_ret
            exact ⟨⟨_, rfl⟩, HB2.out⟩
          · go_roundw
            case rel => exact ⟨k + 1, by go_num, by omega, HB2⟩
            case measure => simp [intOf]; omega
        · have hlt2 : ¬ (k : Int) < n := by omega
          go_wp2_with fail
          go_ret
          exact ⟨⟨_, rfl⟩, HB.out⟩
end Go.Proofs.Ytokidpajialgbaa
