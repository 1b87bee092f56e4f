/- The laws of stage 19: TzxSymbols. -/
import Derived.Test.YtaipkoeiahjghaaTzxM
import Derived.Test.YtaipkoeiahjghaaTzxB
import Derived.Test.YtaipkoeiahjghaaTzxC
namespace Go.Proofs.Ytaipkoeiahjghaa
set_option linter.unusedSimpArgs false
set_option linter.unusedVariables false
open Go.RowKit
set_option maxHeartbeats 4000000 in
theorem tzxSymbols_any (HB37 : Ex.B37) (A : Option Addr) (n c : Nat) (D : List Int) (k x many : Int) (w : World) (hl : Ints w A .u8 D) (hn : D.length = n) (hb : Byts D) :
    Calls Try.prog 4 #[.slice A n c, .agg #[.int .i64 k, .int .i64 x], .int .i64 many] w (Yes w) := by
  have HLV := Lib.hid (lives19 HB37)
  by_cases k1 : (1000 : Int) < n ∨ 1000000 < many
  · clear hl hn hb
    by_cases k2 : (1000 : Int) < n
    · go_enter Try.func4, Try.ntmps4
      go_wp2_with (first
        | (go_at_call 6; refine (HLV.out _).mono ?_; rintro e w3 ⟨rfl, hb3⟩))
      go_ret
      exact ⟨rfl, Below.trans (by repeat (first | exact Below.refl _ _ | refine Below.drew ?_ | refine Below.alloc ?_ (by simp) _)) (hb3.mono (by simp))⟩
    · have k3 : 1000000 < many := by omega
      clear k1
      go_enter Try.func4, Try.ntmps4
      go_wp2_with (first
        | (go_at_call 6; refine (HLV.out _).mono ?_; rintro e w3 ⟨rfl, hb3⟩))
      go_ret
      exact ⟨rfl, Below.trans (by repeat (first | exact Below.refl _ _ | refine Below.drew ?_ | refine Below.alloc ?_ (by simp) _)) (hb3.mono (by simp))⟩
  have hn1 : n ≤ 1000 := by omega
  have hm1 : many ≤ 1000000 := by omega
  clear k1
  obtain ⟨V, M, hs, hr⟩ : ∃ (V : Int) (M : Bool), (∀ u, Below w.heap.size w u → Calls Try.prog 9 #[.slice A n c, .int .i64 k, .int .i64 x] u fun e u' => e = .returned (.tuple #[.int .i64 V, .bool M]) ∧ u = u') ∧ (∀ u, Below w.heap.size w u → Calls Try.prog 10 #[.slice A n c, .int .i64 k, .int .i64 x] u fun e u' => e = .returned (.tuple #[.int .i64 V, .bool M]) ∧ u = u') :=
    ⟨_, _, fun u h => symbol_any A n c D k x u (hl.below h) hn hn1 hb, fun u h => refSymbol_any A n c D k x u (hl.below h) hn hn1 hb⟩
  have HS := Lib.hid hs; have HR := Lib.hid hr
  clear hs hr
  have HBW : Hid (Below w.heap.size w (w.alloc (.cells #[.int .i64 k, .int .i64 x] 37))) := (Below.refl _ w).alloc (Nat.le_refl _) _
  have HBI := Lib.hid (fun u => bits_any many u hm1)
  have HRB := Lib.hid (fun u => refBits_any many u hm1)
  clear hl hn hb
  go_enter Try.func4, Try.ntmps4
  go_wp2_with (first
    | (go_at_call 9; refine (HS.out _ HBW.out).mono ?_; rintro e w3 ⟨rfl, rfl⟩)
    | (go_at_call 10; refine (HR.out _ HBW.out).mono ?_; rintro e w4 ⟨rfl, rfl⟩)
    | (go_at_call 11; refine (HBI.out _).mono ?_; rintro e w5 ⟨b5, rfl, h5, rfl⟩; have H5 := Lib.hid h5; clear h5)
    | (go_at_call 12; refine (HRB.out _).mono ?_; rintro e w6 ⟨b6, rfl, h6, rfl⟩; obtain rfl := Tz.fewest_one H5.out h6)
    | (go_at_call 13; refine (many_any many _).mono ?_; rintro e w7 ⟨rfl, rfl⟩)
    | (go_at_call 14; refine (refMany_any many _).mono ?_; rintro e w8 ⟨rfl, rfl⟩)
    | (go_at_call 6; refine (HLV.out _).mono ?_; rintro e w9 ⟨rfl, hb9⟩))

  all_goals
    go_ret
    exact ⟨rfl, HBW.out.trans (hb9.mono HBW.out.size)⟩
end Go.Proofs.Ytaipkoeiahjghaa
