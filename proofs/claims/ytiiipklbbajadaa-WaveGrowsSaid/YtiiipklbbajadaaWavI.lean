/- wave: what has been filled is what Len and At want. -/
import Derived.Test.YtiiipklbbajadaaWavG
namespace Go.Proofs.Ytiiipklbbajadaa
set_option linter.unusedSimpArgs false
set_option linter.unusedVariables false
open Go.RowKit
theorem part_get (g : Nat) (ps : List Part) (i : Nat) (p : Part) (hi : ps[i]? = some p) (j : Nat) (v : Value) (hv : (p.cells g)[j]? = some v) : (ps.flatMap (·.cells g))[i * 2 + j]? = some v := by
  have hj : j < 2 := by
    rcases Nat.lt_or_ge j 2 with h | h
    · exact h
    · rw [List.getElem?_eq_none (by simp [Part.cells]; omega)] at hv; cases hv
  induction ps generalizing i with
  | nil => simp at hi
  | cons q ps ih =>
    rw [List.flatMap_cons]
    cases i with
    | zero =>
      have : q = p := by simpa using hi
      subst this
      rw [List.getElem?_append_left (by simp [Part.cells]; omega), ← hv]
      congr 1
      omega
    | succ i =>
      rw [List.getElem?_append_right (by simp [Part.cells]; omega), ← ih i (by simpa using hi)]
      congr 1
      simp [Part.cells]
      omega
theorem WvS.parts {u : World} {g : Nat} {B : WB} {t i p s r l : Value} {A : Option Addr} {n c : Nat} {D : List Int} {ps : List Part} (h : WvS u g B t i p s r l A n c D ps) : PartsAt u g ps := by
  obtain ⟨qv, hb, ho⟩ := h.blk
  have hc : u.cell? ⟨g, 19, none⟩ = some qv := hb.cell 19
  rcases ho.2 with ⟨rfl, h0⟩ | ⟨b, cap, cur, rfl, h2, h3, h4⟩
  · refine ⟨none, 0, 0, by rw [hc, h0], .inl h0, fun i p hi => ?_⟩
    rw [List.eq_nil_of_length_eq_zero h0] at hi
    simp at hi
  · exact ⟨_, b, cap, hc, .inr rfl, fun i p hi j v hv => by have := ho.cells (g := b) rfl _ v (part_get g ps i p hi j v hv); rw [Addr.add_mid, Nat.zero_add] at this; exact this⟩
theorem enter_lead (args : Array Value) (w : World) : (callFunc 16 args).run Try.prog w = .ok (.enter 16 args) w := by kernel_rfl
theorem enter_sync (args : Array Value) (w : World) : (callFunc 17 args).run Try.prog w = .ok (.enter 17 args) w := by kernel_rfl
theorem enter_pulse (args : Array Value) (w : World) : (callFunc 19 args).run Try.prog w = .ok (.enter 19 args) w := by kernel_rfl
theorem enter_rest (args : Array Value) (w : World) : (callFunc 32 args).run Try.prog w = .ok (.enter 32 args) w := by kernel_rfl
theorem told_usual {u : World} {g : Nat} {B : WB} {A : Option Addr} {n c : Nat} {D : List Int} (h : WvAt u g B A n c D) (hn1 : n ≤ 1048576) (hp : 0 ≤ B.pa ∧ B.pa ≤ 70000) : Told u g [Part.lead B, Part.sync B, Part.pulse B n D, Part.rest B] := by
  intro p hpm
  simp only [List.mem_cons, List.not_mem_nil, or_false] at hpm
  rcases hpm with rfl | rfl | rfl | rfl
  · exact ⟨enter_lead, fun k w _ hb => wv_lead g B A n c D k w (h.below hb)⟩
  · exact ⟨enter_sync, fun k w _ hb => wv_sync g B A n c D k w (h.below hb)⟩
  · refine ⟨enter_pulse, fun k w hk hb => wv_pulse g B A n c D k w (h.below hb) ?_ hn1⟩
    have := Wv.many_range n B.us
    have hk' : (k : Int) < 2 * Wv.many n B.us := hk
    omega
  · exact ⟨enter_rest, fun k w _ hb => wv_rest g B A n c D k w (h.below hb) hp⟩
end Go.Proofs.Ytiiipklbbajadaa
