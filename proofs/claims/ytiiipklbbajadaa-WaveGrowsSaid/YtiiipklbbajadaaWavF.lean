/- wave: a pause; blocks 16, 17, 20 are filled. -/
import Derived.Test.YtiiipklbbajadaaWavE
namespace Go.Proofs.Ytiiipklbbajadaa
set_option linter.unusedSimpArgs false
set_option linter.unusedVariables false
open Go.RowKit
theorem WvS.at_ {u : World} {g : Nat} {B : WB} {t i p s r l : Value} {A : Option Addr} {n c : Nat} {D : List Int} {ps : List Part} (h : WvS u g B t i p s r l A n c D ps) : WvAt u g B A n c D := by
  obtain ⟨qv, hb, ho⟩ := h.blk
  refine ⟨fun j v hj hv => ?_, hb.cell 12, h.ints, h.len, h.byts⟩
  rw [hb.cell j, ← hv]
  match j, hj with
  | 0, _ => rfl
  | 1, _ => rfl
  | 2, _ => rfl
  | 3, _ => rfl
  | 4, _ => rfl
  | 5, _ => rfl
  | 6, _ => rfl
  | 7, _ => rfl
  | 8, _ => rfl
  | 9, _ => rfl
  | 10, _ => rfl
  | 11, _ => rfl
def Part.lead (B : WB) : Part := ⟨B.co, 16, fun _ => (0, B.pi)⟩
def Part.sync (B : WB) : Part := ⟨2, 17, fun k => if (k : Int) = 0 then (0, B.s1) else (0, B.s2)⟩
def Part.pulse (B : WB) (n : Nat) (D : List Int) : Part := ⟨2 * Wv.many n B.us, 19, fun i => if (Wv.bit D (i / 2) == 1) = true then (0, B.on) else (0, B.ze)⟩
def Part.rest (B : WB) : Part := ⟨if B.pa < 2 then B.pa else 2, 32, fun k => if (k : Int) = 0 then (0, 3500) else (2, (B.pa - 1) * 3500)⟩
/-- a part is added, by what is done -/
def AddP (u : World) (g : Nat) (B : WB) (t i p s r l : Value) (A : Option Addr) (n c : Nat) (D : List Int) (v : Value) (ps : List Part) (e : Ending) (u' : World) : Prop := e = .returned v ∧ WvS u' g B t i p s r l A n c D ps ∧ Below g u u'
theorem wv_pause (g : Nat) (B : WB) (t i p s r l : Value) (A : Option Addr) (n c : Nat) (D : List Int) (ps : List Part) (u : World) (h : WvS u g B t i p s r l A n c D ps) (hl : ps.length < 8) :
    Calls Try.prog 26 #[.pointer (some ⟨g, 0, none⟩)] u (AddP u g B t i p s r l A n c D (.tuple #[]) (ps ++ [Part.rest B])) := by
  have h1 : u.cell? ⟨g, 1, none⟩ = some (.int .i64 B.pa) := h.at_.nums 1 _ (by decide) rfl
  by_cases hk : B.pa < 2
  · have e : Part.rest B = ⟨B.pa, 32, fun k => if (k : Int) = 0 then (0, 3500) else (2, (B.pa - 1) * 3500)⟩ := by unfold Part.rest; rw [if_pos hk]
    have HA := Lib.hid (wv_add g 32 B.pa (fun k => if (k : Int) = 0 then (0, 3500) else (2, (B.pa - 1) * 3500)) B t i p s r l A n c D ps u h hl)
    rw [← e] at HA
    clear h e
    have hk3 : ¬ 2 < B.pa := by omega
    have hk4 : B.pa ≤ 2 := by omega
    go_enter Try.func26, Try.ntmps26
    go_wp2_with (first
      | (go_at_call 15; refine HA.out.mono ?_; rintro e w2 ⟨rfl, h2, hb2⟩))
    exact bodyPost_end (results_none rfl _ _ _) rfl ⟨rfl, h2, hb2⟩
  · have e : Part.rest B = ⟨2, 32, fun k => if (k : Int) = 0 then (0, 3500) else (2, (B.pa - 1) * 3500)⟩ := by unfold Part.rest; rw [if_neg hk]
    have HA := Lib.hid (wv_add g 32 2 (fun k => if (k : Int) = 0 then (0, 3500) else (2, (B.pa - 1) * 3500)) B t i p s r l A n c D ps u h hl)
    rw [← e] at HA
    clear h e
    have hk5 : B.pa = 2 ∨ 2 < B.pa := by omega
    rcases hk5 with hk5 | hk5
    · rw [hk5] at h1
      clear hk hk5
      go_enter Try.func26, Try.ntmps26
      go_wp2_with (first
        | (go_at_call 15; refine HA.out.mono ?_; rintro e w2 ⟨rfl, h2, hb2⟩))
      exact bodyPost_end (results_none rfl _ _ _) rfl ⟨rfl, h2, hb2⟩
    · have hk6 : ¬ B.pa ≤ 2 := by omega
      have hk7 : 2 ≤ B.pa := by omega
      clear hk
      go_enter Try.func26, Try.ntmps26
      go_wp2_with (first
        | (go_at_call 15; refine HA.out.mono ?_; rintro e w2 ⟨rfl, h2, hb2⟩))
      exact bodyPost_end (results_none rfl _ _ _) rfl ⟨rfl, h2, hb2⟩
end Go.Proofs.Ytiiipklbbajadaa
