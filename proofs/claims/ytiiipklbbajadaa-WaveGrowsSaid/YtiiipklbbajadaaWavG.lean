/- wave: blocks 16, 17, 20 are filled. -/
import Derived.Test.YtiiipklbbajadaaWavF
namespace Go.Proofs.Ytiiipklbbajadaa
set_option linter.unusedSimpArgs false
set_option linter.unusedVariables false
open Go.RowKit
theorem add_lead (g : Nat) (B : WB) (t i p s r l : Value) (A : Option Addr) (n c : Nat) (D : List Int) (ps : List Part) (u : World) (h : WvS u g B t i p s r l A n c D ps) (hl : ps.length < 8) :
    Calls Try.prog 15 #[.pointer (some ⟨g, 0, none⟩), .int .i64 B.co, .func (.func 16) #[.pointer (some ⟨g, 0, none⟩)] #[]] u (AddP u g B t i p s r l A n c D (.tuple #[]) (ps ++ [Part.lead B])) := wv_add g _ B.co (fun _ => (0, B.pi)) B t i p s r l A n c D ps u h hl
theorem add_sync (g : Nat) (B : WB) (t i p s r l : Value) (A : Option Addr) (n c : Nat) (D : List Int) (ps : List Part) (u : World) (h : WvS u g B t i p s r l A n c D ps) (hl : ps.length < 8) :
    Calls Try.prog 15 #[.pointer (some ⟨g, 0, none⟩), .int .i64 2, .func (.func 17) #[.pointer (some ⟨g, 0, none⟩)] #[]] u (AddP u g B t i p s r l A n c D (.tuple #[]) (ps ++ [Part.sync B])) := wv_add g _ 2 (fun k => if (k : Int) = 0 then (0, B.s1) else (0, B.s2)) B t i p s r l A n c D ps u h hl
theorem add_pulse (g : Nat) (B : WB) (t i p s r l : Value) (A : Option Addr) (n c : Nat) (D : List Int) (ps : List Part) (u : World) (h : WvS u g B t i p s r l A n c D ps) (hl : ps.length < 8) :
    Calls Try.prog 15 #[.pointer (some ⟨g, 0, none⟩), .int .i64 (2 * Wv.many n B.us), .func (.func 19) #[.pointer (some ⟨g, 0, none⟩)] #[]] u (AddP u g B t i p s r l A n c D (.tuple #[]) (ps ++ [Part.pulse B n D])) := wv_add g _ (2 * Wv.many n B.us) (fun i => if (Wv.bit D (i / 2) == 1) = true then (0, B.on) else (0, B.ze)) B t i p s r l A n c D ps u h hl
set_option maxRecDepth 100000 in
set_option maxHeartbeats 2000000 in
theorem wv_fill17 (g : Nat) (B : WB) (t i p s r l : Value) (A : Option Addr) (n c : Nat) (D : List Int) (u : World) (h : WvS u g B t i p s r l A n c D []) (hn1 : n ≤ 1048576) (hid : B.id = 16 ∨ B.id = 17) :
    Calls Try.prog 14 #[.pointer (some ⟨g, 0, none⟩)] u (AddP u g B t i p s r l A n c D (.int .i64 0) [Part.lead B, Part.sync B, Part.pulse B n D, Part.rest B]) := by
  have h0 : u.cell? ⟨g, 0, none⟩ = some (.int .i64 B.id) := h.at_.nums 0 _ (by decide) rfl
  have h8 : u.cell? ⟨g, 8, none⟩ = some (.int .i64 B.co) := h.at_.nums 8 _ (by decide) rfl
  have H := Lib.hid h
  have hm := Wv.many_range n B.us
  have w1 : IntKind.i64.wrap (2 * Wv.many n B.us) = 2 * Wv.many n B.us := by rw [IntKind.wrap_i64]; omega
  clear h
  rcases hid with hid | hid
  all_goals
    rw [hid] at h0
    clear hid
    go_enter Try.func14, Try.ntmps14
    go_wp2_with (first
      | (go_at_call 26; refine (wv_pause g B t i p s r l A n c D _ _ H4.out (by simp)).mono ?_; rintro e w5 ⟨rfl, h5, hb5⟩)
      | (go_at_call 15; refine (add_pulse g B t i p s r l A n c D _ _ H3.out (by simp)).mono ?_; rintro e w4 ⟨rfl, h4, hb4⟩; have H4 := Lib.hid h4; have HB4 := Lib.hid (HB3.out.trans hb4); clear h4 hb4)
      | (go_at_call 18; refine (wv_bits g B A n c D _ H2.out.at_ hn1).mono ?_; rintro e w3 ⟨rfl, rfl⟩; have H3 := H2; have HB3 := HB2)
      | (go_at_call 15; refine (add_sync g B t i p s r l A n c D _ _ H1.out (by simp)).mono ?_; rintro e w2 ⟨rfl, h2, hb2⟩; have H2 := Lib.hid h2; have HB2 := Lib.hid (HB1.out.trans hb2); clear h2 hb2)
      | (go_at_call 15; refine (add_lead g B t i p s r l A n c D _ _ H.out (by simp)).mono ?_; rintro e w1 ⟨rfl, h1, hb1⟩; have H1 := Lib.hid h1; have HB1 := Lib.hid hb1; clear h1 hb1))
    go_ret
    exact ⟨rfl, h5, HB4.out.trans hb5⟩
set_option maxRecDepth 100000 in
set_option maxHeartbeats 2000000 in
theorem wv_fill20 (g : Nat) (B : WB) (t i p s r l : Value) (A : Option Addr) (n c : Nat) (D : List Int) (u : World) (h : WvS u g B t i p s r l A n c D []) (hn1 : n ≤ 1048576) (hid : B.id = 20) :
    Calls Try.prog 14 #[.pointer (some ⟨g, 0, none⟩)] u (AddP u g B t i p s r l A n c D (.int .i64 0) [Part.pulse B n D, Part.rest B]) := by
  have h0 : u.cell? ⟨g, 0, none⟩ = some (.int .i64 B.id) := h.at_.nums 0 _ (by decide) rfl
  have H := Lib.hid h
  have hm := Wv.many_range n B.us
  have w1 : IntKind.i64.wrap (2 * Wv.many n B.us) = 2 * Wv.many n B.us := by rw [IntKind.wrap_i64]; omega
  clear h
  rw [hid] at h0
  clear hid
  go_enter Try.func14, Try.ntmps14
  go_wp2_with (first
    | (go_at_call 26; refine (wv_pause g B t i p s r l A n c D _ _ H4.out (by simp)).mono ?_; rintro e w5 ⟨rfl, h5, hb5⟩)
    | (go_at_call 15; refine (add_pulse g B t i p s r l A n c D _ _ H3.out (by simp)).mono ?_; rintro e w4 ⟨rfl, h4, hb4⟩; have H4 := Lib.hid h4; have HB4 := Lib.hid hb4; clear h4 hb4)
    | (go_at_call 18; refine (wv_bits g B A n c D _ H.out.at_ hn1).mono ?_; rintro e w3 ⟨rfl, rfl⟩; have H3 := H))
  go_ret
  exact ⟨rfl, h5, HB4.out.trans hb5⟩
end Go.Proofs.Ytiiipklbbajadaa
