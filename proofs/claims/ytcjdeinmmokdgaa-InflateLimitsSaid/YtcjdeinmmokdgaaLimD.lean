/- inflate's unpacker: long, far. -/
import Derived.Test.YtcjdeinmmokdgaaLimC
namespace Go.Proofs.Ytcjdeinmmokdgaa
set_option linter.unusedSimpArgs false
set_option linter.unusedVariables false
open Go.RowKit
/-- a number was read, or not -/
def RdP (R : Except Int (Int × Nat)) (U r : Nat) (A : Option Addr) (c : Nat) (bs : List Int) (v : Value) (out : List Int) (lim : Int) (B : Nat) (w : World) (e : Ending) (w' : World) : Prop :=
  w.grownBy w' (some r) ∧ match R with
    | .ok (x, q) => e = .returned (.tuple #[.int .i64 x, .int .i64 0]) ∧ Un w' U r A c bs q v out lim B
    | .error k => ∃ y, e = .returned (.tuple #[.int .i64 y, .int .i64 k]) ∧ k ≠ 0
theorem ret_ii {a b : Int} {k : Int} (h : a = b) : Ending.returned (.tuple #[.int .i64 a, .int .i64 k]) = .returned (.tuple #[.int .i64 b, .int .i64 k]) := by rw [h]
theorem long_mid (s : Int) (h1 : 265 ≤ s) (h2 : s ≤ 284) : Uf.longM s = Uf.bindM (Uf.takeM ((s - 261).toNat / 4)) fun v => Uf.pureM ((4 + (s - 261) % 4) * 2 ^ ((s - 261).toNat / 4) + 3 + v) := by
  unfold Uf.longM
  rw [if_neg (by omega), if_neg (by omega), if_neg (by omega)]
set_option maxRecDepth 100000 in
set_option maxHeartbeats 8000000 in
/-- the middle lengths: j bits more, behind 4 + i -/
theorem ulong_mid (i j : Nat) (hi : i < 4) (hj : 1 ≤ j ∧ j ≤ 5) (U r : Nat) (A : Option Addr) (c : Nat) (bs : List Int) (p : Nat) (v : Value) (out : List Int) (lim : Int) (B : Nat) (w : World) (h : Un w U r A c bs p v out lim B) :
    Calls Try.prog 38 #[.pointer (some ⟨U, 0, none⟩), .int .i64 (261 + 4 * j + i : Int)] w (RdP (Uf.longM (261 + 4 * j + i : Int) bs p) U r A c bs v out lim B w) := by
  have hm := long_mid (261 + 4 * j + i : Int) (by omega) (by omega)
  have e1 : ((261 + 4 * (j : Int) + i - 261).toNat) / 4 = j := by omega
  have e2 : (261 + 4 * (j : Int) + i - 261) % 4 = i := by omega
  rw [e1, e2] at hm
  rw [hm]
  clear hm e1 e2
  by_cases hf : p + j ≤ 8 * bs.length
  · have HT := Lib.hid (utake_good U r A c bs p j v out lim B w h (by omega) hf _ rfl)
    obtain ⟨y, hy⟩ : ∃ y, y = Hf.takeVal bs p j := ⟨_, rfl⟩
    rw [← hy] at HT
    have hr := Hf.takeVal_range bs p j
    rw [← hy] at hr
    have hR : Uf.bindM (Uf.takeM j) (fun v => Uf.pureM ((4 + (i : Int)) * 2 ^ j + 3 + v)) bs p = .ok ((4 + (i : Int)) * 2 ^ j + 3 + y, p + j) := by
      unfold Uf.bindM Uf.takeM
      rw [if_pos hf, ← hy]
      rfl
    rw [hR]
    clear hR hy hf h
    obtain ⟨y0, y1⟩ := hr
    have hj5 : j = 1 ∨ j = 2 ∨ j = 3 ∨ j = 4 ∨ j = 5 := by omega
    have hi4 : i = 0 ∨ i = 1 ∨ i = 2 ∨ i = 3 := by omega
    rcases hj5 with rfl | rfl | rfl | rfl | rfl <;> rcases hi4 with rfl | rfl | rfl | rfl
    all_goals
      simp at y1
      go_enter Try.func38, Try.ntmps38
      go_wp2_with (first
        | (go_at_call 14; refine HT.out.mono ?_; rintro e w2 ⟨rfl, hu2, hg2⟩; have HU2 := Lib.hid hu2; have HG2 := Lib.hid hg2; clear hu2 hg2))
      go_ret2
      refine ⟨HG2.out, ret_ii ?_, HU2.out⟩
      simp
  · have HT := Lib.hid (utake_bad U r A c bs p j v out lim B w h (by omega) (by omega))
    have hR : Uf.bindM (Uf.takeM j) (fun v => Uf.pureM ((4 + (i : Int)) * 2 ^ j + 3 + v)) bs p = .error 2 := by
      unfold Uf.bindM Uf.takeM
      rw [if_neg hf]
    rw [hR]
    clear hR hf h
    have hj5 : j = 1 ∨ j = 2 ∨ j = 3 ∨ j = 4 ∨ j = 5 := by omega
    have hi4 : i = 0 ∨ i = 1 ∨ i = 2 ∨ i = 3 := by omega
    rcases hj5 with rfl | rfl | rfl | rfl | rfl <;> rcases hi4 with rfl | rfl | rfl | rfl
    all_goals
      go_enter Try.func38, Try.ntmps38
      go_wp2_with (first
        | (go_at_call 14; refine HT.out.mono ?_; rintro e w2 ⟨rfl, hg2⟩; have HG2 := Lib.hid hg2; clear hg2))
      go_ret2
      exact ⟨HG2.out, _, rfl, by decide⟩
end Go.Proofs.Ytcjdeinmmokdgaa
