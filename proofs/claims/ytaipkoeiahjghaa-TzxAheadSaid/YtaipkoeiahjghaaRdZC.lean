/- The laws of stage 19: TzxAhead, branch by branch. -/
import Derived.Test.YtaipkoeiahjghaaRdZB
import Derived.Deep.DrawnRows
namespace Go.Proofs.Ytaipkoeiahjghaa
set_option linter.unusedSimpArgs false
set_option linter.unusedVariables false
open Go.RowKit
theorem cells_own1 {w : World} {B : Nat} {t : TypeId} {v : Value} {n : Nat} {xs : List Value} (h : w.ownsRow B t 1 v n xs) : ∃ A c, v = .slice A n c ∧ Cells w A xs ∧ n ≤ c ∧ (A = none → n = 0 ∧ c = 0) := by
  rcases h.2 with ⟨rfl, rfl⟩ | ⟨g, cap, cur, rfl, _, hh, hcap, _⟩
  · refine ⟨none, 0, rfl, fun i v hi => ?_, Nat.le_refl _, fun _ => ⟨rfl, rfl⟩⟩
    have : xs = [] := List.eq_nil_of_length_eq_zero (by simpa using h.1)
    subst this
    simp at hi
  · refine ⟨_, _, rfl, fun i v hi => ⟨_, rfl, ?_⟩, hcap, fun e => by cases e⟩
    simpa [Addr.add] using h.cells (g := g) rfl i v hi
set_option maxHeartbeats 4000000 in
theorem ahead_long (A C : Option Addr) (n c p d : Nat) (w : World) (h : (6000 : Int) < n ∨ (1000 : Int) < p) :
    Calls Try.prog 5 #[.slice A n c, .slice C p d] w (Yes w) := by
  have HLV := Lib.hid lives19
  by_cases k1 : (6000 : Int) < n
  · clear h
    go_enter Try.func5, Try.ntmps5
    go_wp2_with (first
      | (go_at_call 6; refine (HLV.out _).mono ?_; rintro e w3 ⟨rfl, hb3⟩))
    go_ret
    exact ⟨rfl, hb3⟩
  · have k2 : (1000 : Int) < p := by omega
    clear h
    go_enter Try.func5, Try.ntmps5
    go_wp2_with (first
      | (go_at_call 6; refine (HLV.out _).mono ?_; rintro e w3 ⟨rfl, hb3⟩))
    go_ret
    exact ⟨rfl, hb3⟩
set_option maxHeartbeats 4000000 in
theorem ahead_tape (A C : Option Addr) (n c p d : Nat) (D : List Int) (w : World) (hi : Ints w A .u8 D) (hb : Byts D) (hn : D.length = n) (hc : n ≤ c) (k1 : ¬ (6000 : Int) < n) (k2 : ¬ (1000 : Int) < p) (maj min : Int) (l : List TB) (hD : Rd.parseD D = .tape maj min l) :
    Calls Try.prog 5 #[.slice A n c, .slice C p d] w (Yes w) := by
  have HLV := Lib.hid lives19
  have hlen := Rd.parse_tape D maj min l hD
  rw [hn] at hlen
  have HP : Hid (∀ (u : World), Below w.heap.size w u → Calls Try.prog 15 #[.slice A n c] u fun e u' => ∃ B k e', e = .returned (.tuple #[.agg #[.int .i64 maj, .int .i64 min, .slice B k e'], Value.nilIface]) ∧ Below u.heap.size u u' ∧ k + 10 ≤ n) := Lib.hid fun u hu => (parse_any A n c D u (hi.below hu) hb hn hc).mono fun e u' ⟨h1, h2⟩ => by
    rw [hD] at h2
    obtain ⟨bl, X, cs, rfl, ho, -⟩ := h2
    obtain ⟨B, e', rfl⟩ := own_form ho
    exact ⟨B, _, e', rfl, h1, hlen⟩
  clear hi hb hn hD hlen
  have hn63 : n ≤ 6000 := by omega
  go_enter Try.func5, Try.ntmps5
  go_wp2_with (first
    | (go_at_call 6
       refine (HLV.out _).mono ?_; rintro e w3 ⟨rfl, hb3⟩)
    | (go_at_call 15
       refine (HP.out _ (Below.refl _ _)).mono ?_
       rintro e w2 ⟨B2, k2', d2, rfl, hb2, hk2⟩
       have hle : ((k2' : Nat) : Int) ≤ (n : Int) - 10 := by omega
       have HV2 := Lib.hid (Blk.new w2 43 [.int .i64 maj, .int .i64 min, .slice B2 k2' d2])
       have v52 := fun q => (HV2.out.drewN q).cell 2
       have v52' := HV2.out.cell 2
       have hw10 : IntKind.i64.wrap ((n : Int) - 10) = (n : Int) - 10 := by rw [IntKind.wrap_i64]; omega
       have HB2 := Lib.hid (hb2.alloc hb2.size (.cells #[.int .i64 maj, .int .i64 min, .slice B2 k2' d2] 43))))
  go_ret
  exact ⟨rfl, HB2.out.trans (hb3.mono HB2.out.size)⟩
end Go.Proofs.Ytaipkoeiahjghaa
