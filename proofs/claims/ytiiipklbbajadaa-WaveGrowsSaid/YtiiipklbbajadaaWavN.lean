/- WaveUsual: the law's body. -/
import Derived.Test.YtiiipklbbajadaaWavM
import Derived.Laws.StructEq
namespace Go.Proofs.Ytiiipklbbajadaa
set_option linter.unusedSimpArgs false
set_option linter.unusedVariables false
open Go.RowKit
set_option maxRecDepth 100000 in
theorem usual_long (A : Option Addr) (n c : Nat) (pa k : Int) (w : World) (h : 300 < n ∨ 70000 < pa) :
    Calls Try.prog 4 #[.slice A n c, .int .i64 pa, .int .i64 k] w (Yes w) := by
  have h' : (300 : Int) < n ∨ ¬ (300 : Int) < n ∧ 70000 < pa := by omega
  clear h
  rcases h' with h | ⟨h, h2⟩
  all_goals
    go_enter Try.func4, Try.ntmps4
    go_wp2_with (first
      | (go_at_call 6; refine (lives23 _).mono ?_; rintro e w1 ⟨rfl, hb1⟩))
    go_ret
    exact ⟨rfl, hb1⟩
def B16 (pa : Int) : WB := ⟨16, pa, 0, 0, 0, 0, 0, 0, 0, 0, 0, 0⟩
def B17 (pa cn : Int) : WB := ⟨17, pa, 2168, 667, 735, 855, 1710, 0, cn, 8, 0, 0⟩
/-- how the law's data begins -/
def Starts (w : World) (A : Option Addr) (n : Nat) (D : List Int) (cn : Int) : Prop :=
  (¬ (0 : Int) < n ∧ cn = 8063) ∨ (∃ ad x, A = some ad ∧ w.cell? ad = some (.int .u8 x) ∧ (0 : Int) < n ∧ 0 < n ∧ 128 ≤ x ∧ cn = 3223) ∨ ∃ ad x, A = some ad ∧ w.cell? ad = some (.int .u8 x) ∧ (0 : Int) < n ∧ 0 < n ∧ ¬ 128 ≤ x ∧ cn = 8063
theorem starts_any (w : World) (A : Option Addr) (n : Nat) (D : List Int) (hi : Ints w A .u8 D) (hn : D.length = n) : Starts w A n D (if 128 ≤ D.getD 0 0 then 3223 else 8063) := by
  cases D with
  | nil => exact .inl ⟨by simp at hn; omega, rfl⟩
  | cons x D =>
    obtain ⟨ad, rfl, hc⟩ := hi 0 (.int .u8 x) (by simp)
    have hc0 : w.cell? ad = some (.int .u8 x) := by simpa [Addr.add] using hc
    have hn' : 0 < n := by rw [← hn]; simp
    by_cases hx : 128 ≤ x
    · exact .inr (.inl ⟨ad, x, rfl, hc0, by omega, hn', hx, by simp [hx]⟩)
    · exact .inr (.inr ⟨ad, x, rfl, hc0, by omega, hn', hx, by simp [hx]⟩)
theorem atV_three (x : Option (Int × Int)) : ∃ a b c, atV x = .tuple #[.agg #[.int .i64 a, .int .i64 b], .bool c] := by
  cases x with
  | none => exact ⟨0, 0, false, rfl⟩
  | some y => exact ⟨y.1, y.2, true, rfl⟩
def TelP (a b : Int) (c : Bool) (w : World) (e : Ending) (w' : World) : Prop := e = .returned (.tuple #[.agg #[.int .i64 a, .int .i64 b], .bool c]) ∧ Below w.heap.size w w'
theorem wv_at_any (ps : List Part) (k : Int) (hk2 : k ≤ 9223372036854775807) : ∃ a b c, ∀ (w : World) (g : Nat), WvR w g ps → Calls Try.prog 9 #[.pointer (some ⟨g, 0, none⟩), .int .i64 k] w (TelP a b c w) := by
  by_cases hk : k < 0
  · refine ⟨0, 0, false, fun w g _ => ?_⟩
    exact wv_at_neg g k w hk
  · obtain ⟨a, b, c, e⟩ := atV_three (Wv.at_ ps k)
    refine ⟨a, b, c, fun w g h => ?_⟩
    have := wv_at g ps k w h.parts h.few h.told hk hk2
    unfold AtP at this
    rw [e] at this
    exact this
theorem wv_len_any (ps : List Part) (w : World) (g : Nat) (h : WvR w g ps) : Calls Try.prog 8 #[.pointer (some ⟨g, 0, none⟩)] w fun e w' => e = .returned (.int .i64 (Wv.len ps)) ∧ Below w.heap.size w w' := wv_len g ps w h.parts h.few
theorem usual16 (A : Option Addr) (n c : Nat) (D : List Int) (pa : Int) (w u : World) (hi : Ints w A .u8 D) (hn : D.length = n) (hb : Byts D) (hn1 : n ≤ 300) (hu : Below w.heap.size w u) :
    Calls Try.prog 7 #[.agg #[.int .i64 16, .int .i64 pa, .int .i64 0, .int .i64 0, .int .i64 0, .int .i64 0, .int .i64 0, .int .i64 0, .int .i64 0, .int .i64 0, .int .i64 0, .int .i64 0, .slice A n c, .slice none 0 0, .slice none 0 0, .slice none 0 0, .slice none 0 0, .slice none 0 0]] u (NewP 0 0 pa (WvPost u ((B16 pa).usual D) nilS nilS nilS nilS nilS A n c D (ps17 ((B16 pa).usual D) n D)) u) :=
  new16 (B16 pa) nilS nilS nilS nilS nilS one5_nil A n c D u (hi.below hu) hn hb (by omega) rfl
theorem usual17 (A : Option Addr) (n c : Nat) (D : List Int) (pa cn : Int) (w u : World) (hi : Ints w A .u8 D) (hn : D.length = n) (hb : Byts D) (hn1 : n ≤ 300) (hu : Below w.heap.size w u) :
    Calls Try.prog 7 #[.agg #[.int .i64 17, .int .i64 pa, .int .i64 2168, .int .i64 667, .int .i64 735, .int .i64 855, .int .i64 1710, .int .i64 0, .int .i64 cn, .int .i64 8, .int .i64 0, .int .i64 0, .slice A n c, .slice none 0 0, .slice none 0 0, .slice none 0 0, .slice none 0 0, .slice none 0 0]] u (NewP 0 cn pa (WvPost u (B17 pa cn) nilS nilS nilS nilS nilS A n c D (ps17 (B17 pa cn) n D)) u) :=
  new17 (B17 pa cn) nilS nilS nilS nilS nilS A n c D u (hi.below hu) hn hb (by omega) rfl
set_option maxRecDepth 100000 in
set_option maxHeartbeats 8000000 in
theorem usual_neg (A : Option Addr) (n c : Nat) (D : List Int) (pa k : Int) (w : World) (hi : Ints w A .u8 D) (hn : D.length = n) (hb : Byts D) (hn1 : n ≤ 300) (hp : pa < 0) :
    Calls Try.prog 4 #[.slice A n c, .int .i64 pa, .int .i64 k] w (Yes w) := by
  have HN16 := Lib.hid (fun u hu => usual16 A n c D pa w u hi hn hb hn1 hu)
  have HN17 := Lib.hid (fun cn u hu => usual17 A n c D pa cn w u hi hn hb hn1 hu)
  have hv : ∀ g co, newV g 0 co pa = .tuple #[.pointer none, .int .i64 5] := fun g co => by simp [newV, hp]
  have HV := Lib.hid hv
  have hs := starts_any w A n D hi hn
  obtain ⟨cn, hcn⟩ : ∃ cn : Int, cn = if 128 ≤ D.getD 0 0 then 3223 else 8063 := ⟨_, rfl⟩
  rw [← hcn] at hs
  have hn300 : ¬ (300 : Int) < n := by omega
  have hp7 : ¬ 70000 < pa := by omega
  clear hi hn hb hn1 hcn hv
  rcases hs with ⟨hg, rfl⟩ | ⟨ad, x, rfl, hc, hg1, hg2, hx, rfl⟩ | ⟨ad, x, rfl, hc, hg1, hg2, hx, rfl⟩
  all_goals
    go_enter Try.func4, Try.ntmps4
    go_wp2_with (first
      | (go_at_call 6; refine (lives23 _).mono ?_; rintro e w3 ⟨rfl, hb3⟩; have HB3 : Hid (Below w.heap.size w w3) := Lib.hid (HB2.out.trans (hb3.mono HB2.out.size)); clear hb3)
      | (go_at_call 7; refine (HN17.out _ _ HB1.out).mono ?_; rintro e w2 ⟨rfl, -, hb2⟩; rw [HV.out]; have HB2 : Hid (Below w.heap.size w w2) := Lib.hid (HB1.out.trans (hb2.mono HB1.out.size)); clear hb2)
      | (go_at_call 7; refine (HN16.out w (Below.refl _ _)).mono ?_; rintro e w1 ⟨rfl, -, hb1⟩; rw [HV.out]; have HB1 : Hid (Below w.heap.size w w1) := Lib.hid hb1; clear hb1))
    go_ret
    exact ⟨rfl, HB3.out⟩
end Go.Proofs.Ytiiipklbbajadaa
