/- The laws of stage 8: lives, sound. -/
import Derived.Test.YtfhegloobldokaaMicG
import Derived.Test.YtfhegloobldokaaMicJ
namespace Go.Proofs.Ytfhegloobldokaa
set_option linter.unusedSimpArgs false
set_option linter.unusedVariables false
open Go.RowKit
def True_ (w : World) (e : Ending) (w' : World) : Prop := e = .returned (.bool true) ∧ Below w.heap.size w w'
theorem own_cells4 {w : World} {B : Nat} {t : TypeId} {size : Nat} {v : Value} {n : Nat} {xs : List Value} (h : w.ownsRow B t size v n xs) :
    ∃ A c, v = .slice A n c ∧ Cells w A xs := by
  rcases h.2 with ⟨rfl, rfl⟩ | ⟨g, cap, cur, rfl, _, hh, _⟩
  · refine ⟨none, 0, rfl, fun i v hi => ?_⟩
    have : xs = [] := List.eq_nil_of_length_eq_zero (by simpa using h.1)
    subst this; simp at hi
  · exact ⟨some ⟨g, 0, none⟩, cap, rfl, fun i v hi => ⟨_, rfl, h.cells (g := g) rfl i v hi⟩⟩
theorem steps_of_own {w : World} {B : Nat} {v : Value} {n : Nat} {l : List Stp} (h : w.ownsRow B 58 4 v n (flat l)) : Steps_ w v l := by
  have h1 := h.1
  rw [flat_len] at h1
  obtain rfl : n = l.length := by omega
  exact own_cells4 h
theorem Steps_.below {w w' : World} {v : Value} {l : List Stp} (h : Steps_ w v l) (hb : Below w.heap.size w w') : Steps_ w' v l := by
  obtain ⟨A, c, rfl, hc⟩ := h
  exact ⟨A, c, rfl, Cells.below hc hb⟩
/-- Program on the nil list -/
theorem program_nil (set ix c : Int) (w : World) (h0 : 0 ≤ c) (h1 : c ≤ 255) :
    Calls Try.prog 32 #[.slice none 0 0, .int .i64 set, .int .i64 ix, .int .u8 c] w fun e w' => ∃ v, e = .returned v ∧ Steps_ w' v (Mi.programS set ix c) ∧ Below w.heap.size w w' := by
  refine (program_any set ix c w.heap.size 0 (.slice none 0 0) [] w (World.ownsRow_nil _ _ _ _) (Nat.le_refl _) (by simp) h0 h1).mono ?_
  rintro e w' ⟨v, rfl, hs⟩
  obtain ⟨n, ho⟩ := hs.own
  refine ⟨v, rfl, steps_of_own (by simpa using ho), ?_⟩
  have hg := hs.grown
  exact ⟨hg.os, hg.tape, hg.output, hg.size, fun k hk => hg.block k hk (by simp [Value.ownBlock])⟩

set_option maxRecDepth 100000 in
set_option maxHeartbeats 1000000 in
theorem lives08 (w : World) : Calls Try.prog 35 #[] w (True_ w) := by
  have hp : Mi.programS 0 0 198 = [Mi.readS 0 0, Mi.workS 22] := by decide
  have hP := fun w => program_nil 0 0 198 w (by omega) (by omega)
  rw [hp] at hP
  have HP := Lib.hid hP
  have hsm : Mi.Small [Mi.readS 0 0, Mi.workS 22] := Mi.sound_small _ (by decide)
  have ht := fun v w h => time_any true v [Mi.readS 0 0, Mi.workS 22] w h hsm (by simp)
  rw [show Mi.timeS true [Mi.readS 0 0, Mi.workS 22] = 3 from by decide] at ht
  have hf := fun v w h => fetches_any v [Mi.readS 0 0, Mi.workS 22] w h (by simp)
  rw [show Mi.fetchesS [Mi.readS 0 0, Mi.workS 22] = 1 from by decide] at hf
  have HT := Lib.hid ht; have HF := Lib.hid hf
  clear hp hP hsm ht hf
  go_enter Try.func35, Try.ntmps35
  go_wp2_with fail
  refine (HP.out _).mono ?_
  rintro e w1 ⟨v, rfl, hs, hB1⟩
  have HS := Lib.hid hs; have HB1 := Lib.hid hB1; clear hs hB1
  go_wp2_with fail
  refine (HT.out _ _ HS.out).mono ?_
  rintro e w2 ⟨rfl, hB2⟩
  have HS2 := Lib.hid (HS.out.below hB2); have HB2 := Lib.hid (HB1.out.trans (hB2.mono HB1.out.size)); clear hB2
  go_wp2_with fail
  refine (HF.out _ _ HS2.out).mono ?_
  rintro e w3 ⟨rfl, hB3⟩
  have HB3 := Lib.hid (HB2.out.trans (hB3.mono HB2.out.size)); clear hB3
  go_wp2_with fail
  go_ret
  exact ⟨rfl, HB3.out⟩

end Go.Proofs.Ytfhegloobldokaa
