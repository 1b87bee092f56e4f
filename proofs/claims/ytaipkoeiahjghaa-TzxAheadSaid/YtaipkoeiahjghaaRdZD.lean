/- The laws of stage 19: TzxAhead, of bytes with a fault. -/
import Derived.Test.YtaipkoeiahjghaaRdZC
namespace Go.Proofs.Ytaipkoeiahjghaa
set_option linter.unusedSimpArgs false
set_option linter.unusedVariables false
open Go.RowKit
/-- a call of Parse that ends with a fault -/
def FaultP (E p : Int) (u : World) (e : Ending) (u' : World) : Prop := ∃ f, e = .returned (.tuple #[.agg #[.int .i64 0, .int .i64 0, .slice none 0 0], .iface 48 (.pointer (some ⟨f, 0, none⟩))]) ∧ Blk u' f 51 [.int .i64 E, .int .i64 p] ∧ Below u.heap.size u u'
theorem parse_fault (A : Option Addr) (n c : Nat) (D : List Int) (u : World) (hi : Ints u A .u8 D) (hb : Byts D) (hn : D.length = n) (hc : n ≤ c) (E p : Int) (hD : Rd.parseD D = .fault E p) : Calls Try.prog 15 #[.slice A n c] u (FaultP E p u) :=
  (parse_any A n c D u hi hb hn hc).mono fun e u' ⟨h1, h2⟩ => by
    rw [hD] at h2
    obtain ⟨f, rfl, hf⟩ := h2
    exact ⟨f, rfl, hf, h1⟩
set_option maxHeartbeats 4000000 in
theorem ahead_lives (A C : Option Addr) (n c q d : Nat) (w : World) (E p : Int) (HP : Hid (∀ (u : World), Below w.heap.size w u → Calls Try.prog 15 #[.slice A n c] u (FaultP E p u))) (k1 : ¬ (6000 : Int) < n) (k2 : ¬ (1000 : Int) < q) (hp0 : ¬ p < 0) (hp1 : ¬ (n : Int) < p) (hE : E = 2 ∨ E = 8 ∨ E = 6 ∨ E = 5 ∨ E = 3 ∧ (n : Int) < 8) :
    Calls Try.prog 5 #[.slice A n c, .slice C q d] w (Yes w) := by
  have HLV := Lib.hid lives19
  have ha := fun (f : Nat) (u : World) => assert_fault (.pointer (some ⟨f, 0, none⟩)) u
  rcases hE with rfl | rfl | rfl | rfl | ⟨rfl, k3⟩
  all_goals
    go_enter Try.func5, Try.ntmps5
    go_wp2_with (first
      | (go_at_call 6
         refine (HLV.out _).mono ?_; rintro e w3 ⟨rfl, hb3⟩)
      | (go_at_call 15
         refine (HP.out _ (Below.refl _ _)).mono ?_
         rintro e w2 ⟨f2, rfl, hf2, hb2⟩
         have HV2 := Lib.hid (Blk.new w2 43 [.int .i64 0, .int .i64 0, .slice none 0 0])
         have HF2 : Hid (Blk (w2.alloc (.cells #[.int .i64 0, .int .i64 0, .slice none 0 0] 43)) f2 51 [_, .int .i64 p]) := Lib.hid (hf2.alloc _)
         have v52' := HV2.out.cell 2
         have v50' := HF2.out.cell 0
         have v51' := HF2.out.cell 1
         have v52 := fun q => (HV2.out.drewN q).cell 2
         have v50 := fun q => (HF2.out.drewN q).cell 0
         have v51 := fun q => (HF2.out.drewN q).cell 1
         have HB2 := Lib.hid (hb2.alloc hb2.size (.cells #[.int .i64 0, .int .i64 0, .slice none 0 0] 43))
         clear hf2 hb2))
    try (go_quiet (fail); go_wp2_with (first
      | (go_at_call 6
         refine (HLV.out _).mono ?_; rintro e w3 ⟨rfl, hb3⟩)))
    try (go_quiet (fail); go_wp2_with (first
      | (go_at_call 6
         refine (HLV.out _).mono ?_; rintro e w3 ⟨rfl, hb3⟩)))
    go_ret
    exact ⟨rfl, Below.trans (by repeat (first | exact HB2.out | refine Below.drew ?_ | refine Below_drewN ?_ _)) (hb3.mono (by have := HB2.out.size; simp at this ⊢; omega))⟩
end Go.Proofs.Ytaipkoeiahjghaa
