/- WaveGrows: the plain law. -/
import Derived.Test.YtiiipklbbajadaaWavO
namespace Go.Proofs.Ytiiipklbbajadaa
set_option linter.unusedSimpArgs false
set_option linter.unusedVariables false
open Go.RowKit
namespace Wv
/-- how long an edge of data is -/
def ee (ze on : Int) (D : List Int) (i : Nat) : Int := if (bit D (i / 2) == 1) = true then on else ze
theorem many8 (n : Nat) : many n 8 = 8 * n := by
  unfold many
  by_cases h : n = 0
  · subst h; rfl
  · rw [if_neg h, if_neg (by decide)]; omega
theorem bit_old (D : List Int) (c : Int) (i : Nat) (h : i < 8 * D.length) : bit (D ++ [c]) i = bit D i := by
  unfold bit
  have h2 : i / 8 < D.length := by omega
  simp only [List.getD, List.getElem?_append_left h2]
theorem bit_new (D : List Int) (c : Int) (j : Nat) (h : j < 8) : bit (D ++ [c]) (8 * D.length + j) = c / 2 ^ (7 - j) % 2 := by
  unfold bit
  have h1 : (8 * D.length + j) / 8 = D.length := by omega
  have h2 : (8 * D.length + j) % 8 = j := by omega
  rw [h1, h2]
  simp [List.getD]
theorem ee_old (ze on : Int) (D : List Int) (c : Int) (i : Nat) (h : i < 16 * D.length) : ee ze on (D ++ [c]) i = ee ze on D i := by
  unfold ee
  rw [bit_old D c (i / 2) (by omega)]
theorem ee_new (ze on : Int) (D : List Int) (c : Int) (j : Nat) (h : j < 8) : ee ze on (D ++ [c]) (16 * D.length + 2 * j) = (if (c / 2 ^ (7 - j) % 2 == 1) = true then on else ze) ∧ ee ze on (D ++ [c]) (16 * D.length + 2 * j + 1) = (if (c / 2 ^ (7 - j) % 2 == 1) = true then on else ze) := by
  unfold ee
  have h1 : (16 * D.length + 2 * j) / 2 = 8 * D.length + j := by omega
  have h2 : (16 * D.length + 2 * j + 1) / 2 = 8 * D.length + j := by omega
  rw [h1, h2, bit_new D c j h]
  exact ⟨rfl, rfl⟩
end Wv
def B20 (ze on : Int) : WB := ⟨20, 0, 0, 0, 0, ze, on, 0, 0, 8, 0, 0⟩
theorem grow_len (ze on : Int) (n : Nat) (D : List Int) : Wv.len (ps20 (B20 ze on) n D) = 16 * n := by
  simp only [ps20, Wv.len, Part.pulse, Part.rest, B20, Wv.many8]
  simp
  omega
theorem grow_at (ze on : Int) (n : Nat) (D : List Int) (i : Nat) (h : i < 16 * n) : Wv.at_ (ps20 (B20 ze on) n D) i = some (0, Wv.ee ze on D i) := by
  have h1 : (i : Int) < 2 * Wv.many n 8 := by rw [Wv.many8]; omega
  simp only [ps20, Part.pulse, Part.rest, B20, Wv.at_, h1, if_true, Int.toNat_natCast, Wv.ee]
  split <;> rfl
theorem grow_tell (ze on : Int) (n : Nat) (D : List Int) (i : Nat) (h : i < 16 * n) (hn : n ≤ 400) (w : World) (g : Nat) (hw : WvR w g (ps20 (B20 ze on) n D)) :
    Calls Try.prog 9 #[.pointer (some ⟨g, 0, none⟩), .int .i64 i] w (TelP 0 (Wv.ee ze on D i) true w) := by
  have := wv_at g _ i w hw.parts hw.few hw.told (by omega) (by omega)
  rw [grow_at ze on n D i h] at this
  exact this
end Go.Proofs.Ytiiipklbbajadaa
