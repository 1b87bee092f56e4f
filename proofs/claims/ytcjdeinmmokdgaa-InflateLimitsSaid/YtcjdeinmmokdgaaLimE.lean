/- inflate's unpacker: all lengths; distances; a byte put out at the limit. -/
import Derived.Test.YtcjdeinmmokdgaaLimD
import Derived.Test.YtcjdeinmmokdgaaInfR
namespace Go.Proofs.Ytcjdeinmmokdgaa
set_option linter.unusedSimpArgs false
set_option linter.unusedVariables false
open Go.RowKit
theorem un_same {w : World} {U r : Nat} {A : Option Addr} {c : Nat} {bs : List Int} {p : Nat} {v : Value} {out : List Int} {lim : Int} {B : Nat} (h : Un w U r A c bs p v out lim B) {n : Nat} : Un (w.drewN n) U r A c bs p v out lim B := h.drewN n
set_option maxHeartbeats 1000000 in
theorem ulong_any (s : Int) (h0 : 256 < s) (hs : s ≤ 1000) (U r : Nat) (A : Option Addr) (c : Nat) (bs : List Int) (p : Nat) (v : Value) (out : List Int) (lim : Int) (B : Nat) (w : World) (h : Un w U r A c bs p v out lim B) :
    Calls Try.prog 38 #[.pointer (some ⟨U, 0, none⟩), .int .i64 s] w (RdP (Uf.longM s bs p) U r A c bs v out lim B w) := by
  by_cases c1 : s < 265
  · have hR : Uf.longM s bs p = .ok (s - 254, p) := by unfold Uf.longM; rw [if_pos c1]; rfl
    rw [hR]
    have HH := Lib.hid h
    clear h hR
    go_enter Try.func38, Try.ntmps38
    go_wp2
    go_ret2
    refine ⟨grownBy_refl _ _, ret_ii (by omega), HH.out⟩
  by_cases c2 : s = 285
  · subst c2
    have hR : Uf.longM 285 bs p = .ok (258, p) := rfl
    rw [hR]
    have HH := Lib.hid h
    clear h hR
    go_enter Try.func38, Try.ntmps38
    go_wp2
    go_ret2
    refine ⟨grownBy_refl _ _, rfl, HH.out⟩
  by_cases c3 : 285 < s
  · have hR : Uf.longM s bs p = .error 4 := by unfold Uf.longM; rw [if_neg c1, if_neg c2, if_pos c3]; rfl
    rw [hR]
    clear h hR
    go_enter Try.func38, Try.ntmps38
    go_wp2
    go_ret2
    exact ⟨grownBy_refl _ _, _, rfl, by decide⟩
  · obtain ⟨i, hi⟩ : ∃ i : Nat, i = (s - 261).toNat % 4 := ⟨_, rfl⟩
    obtain ⟨j, hj⟩ : ∃ j : Nat, j = (s - 261).toNat / 4 := ⟨_, rfl⟩
    have e : s = 261 + 4 * (j : Int) + i := by omega
    rw [e]
    exact ulong_mid i j (by omega) (by omega) U r A c bs p v out lim B w h
/-! ### a distance -/
theorem far_mid (d : List Int) (bs : List Int) (p k j i : Nat) (hn : Hf.next d bs p = (2 + 2 * (j : Int) + i, 0, k)) (hi : i < 2) (hj : 1 ≤ j ∧ j ≤ 13) :
    Uf.farM d bs p = Uf.bindM (Uf.takeM j) (fun v => Uf.pureM ((2 + (i : Int)) * 2 ^ j + 1 + v)) bs (p + k) := by
  unfold Uf.farM
  rw [Uf.bindM]
  unfold Uf.nextM
  rw [hn]
  simp only [if_true]
  rw [if_neg (by omega), if_neg (by omega)]
  have e1 : ((2 + 2 * (j : Int) + i - 2).toNat) / 2 = j := by omega
  have e2 : (2 + 2 * (j : Int) + i - 2) % 2 = i := by omega
  rw [e1, e2]
set_option maxRecDepth 100000 in
set_option maxHeartbeats 16000000 in
theorem ufar_mid (i j k : Nat) (hi : i < 2) (hj : 1 ≤ j ∧ j ≤ 13) (d : List Int) (gd U r : Nat) (A : Option Addr) (c : Nat) (bs : List Int) (p : Nat) (v : Value) (out : List Int) (lim : Int) (B : Nat) (w : World) (h : Un w U r A c bs p v out lim B)
    (hT : TabR w gd d) (he : Hf.err d = 0) (hn : Hf.next d bs p = (2 + 2 * (j : Int) + i, 0, k)) :
    Calls Try.prog 39 #[.pointer (some ⟨U, 0, none⟩), .pointer (some ⟨gd, 0, none⟩)] w (RdP (Uf.farM d bs p) U r A c bs v out lim B w) := by
  rw [far_mid d bs p k j i hn hi hj]
  have HNX := next_any gd r A c d bs p w hT h.bits he
  rw [hn] at HNX
  have HNX := Lib.hid HNX
  have u0 : w.cell? ⟨U, 0, none⟩ = some (.pointer (some ⟨r, 0, none⟩)) := h.blk.cell 0
  have HH := Lib.hid h
  clear h hT he hn
  by_cases hf : p + k + j ≤ 8 * bs.length
  · obtain ⟨y, hy⟩ : ∃ y, y = Hf.takeVal bs (p + k) j := ⟨_, rfl⟩
    have HT : Hid (∀ w1, Un w1 U r A c bs (p + k) v out lim B → Calls Try.prog 14 #[.pointer (some ⟨U, 0, none⟩), .int .i64 j] w1 (TakeG U r A c bs (p + k + j) y v out lim B w1)) := fun w1 h1 => utake_good U r A c bs (p + k) j v out lim B w1 h1 (by omega) hf _ hy.symm
    have hr := Hf.takeVal_range bs (p + k) j
    rw [← hy] at hr
    have hR : Uf.bindM (Uf.takeM j) (fun v => Uf.pureM ((2 + (i : Int)) * 2 ^ j + 1 + v)) bs (p + k) = .ok ((2 + (i : Int)) * 2 ^ j + 1 + y, p + k + j) := by
      unfold Uf.bindM Uf.takeM
      rw [if_pos hf, ← hy]
      rfl
    rw [hR]
    clear hR hy hf
    obtain ⟨y0, y1⟩ := hr
    have hj5 : j = 1 ∨ j = 2 ∨ j = 3 ∨ j = 4 ∨ j = 5 ∨ j = 6 ∨ j = 7 ∨ j = 8 ∨ j = 9 ∨ j = 10 ∨ j = 11 ∨ j = 12 ∨ j = 13 := by omega
    have hi4 : i = 0 ∨ i = 1 := by omega
    rcases hj5 with rfl | rfl | rfl | rfl | rfl | rfl | rfl | rfl | rfl | rfl | rfl | rfl | rfl <;> rcases hi4 with rfl | rfl
    all_goals
      simp at y1
      go_enter Try.func39, Try.ntmps39
      go_wp2_with (first
        | (go_at_call 14; refine (HT.out w1 HU1.out).mono ?_; rintro e w2 ⟨rfl, hu2, hg2⟩; have HU2 := Lib.hid hu2; have HG2 := Lib.hid hg2; clear hu2 hg2)
        | (go_at_call 33; refine HNX.out.mono ?_; rintro e w1 ⟨rfl, hb1, hg1⟩; have HU1 := Lib.hid (HH.out.step hg1 hb1); have HG1 := Lib.hid hg1; clear hb1 hg1))
      go_ret2
      refine ⟨HG1.out.trans HG2.out, ret_ii ?_, HU2.out⟩
      simp
  · have HT : Hid (∀ w1, Un w1 U r A c bs (p + k) v out lim B → Calls Try.prog 14 #[.pointer (some ⟨U, 0, none⟩), .int .i64 j] w1 (TakeE r w1)) := fun w1 h1 => utake_bad U r A c bs (p + k) j v out lim B w1 h1 (by omega) (by omega)
    have hR : Uf.bindM (Uf.takeM j) (fun v => Uf.pureM ((2 + (i : Int)) * 2 ^ j + 1 + v)) bs (p + k) = .error 2 := by
      unfold Uf.bindM Uf.takeM
      rw [if_neg hf]
    rw [hR]
    clear hR hf
    have hj5 : j = 1 ∨ j = 2 ∨ j = 3 ∨ j = 4 ∨ j = 5 ∨ j = 6 ∨ j = 7 ∨ j = 8 ∨ j = 9 ∨ j = 10 ∨ j = 11 ∨ j = 12 ∨ j = 13 := by omega
    have hi4 : i = 0 ∨ i = 1 := by omega
    rcases hj5 with rfl | rfl | rfl | rfl | rfl | rfl | rfl | rfl | rfl | rfl | rfl | rfl | rfl <;> rcases hi4 with rfl | rfl
    all_goals
      go_enter Try.func39, Try.ntmps39
      go_wp2_with (first
        | (go_at_call 14; refine (HT.out w1 HU1.out).mono ?_; rintro e w2 ⟨rfl, hg2⟩; have HG2 := Lib.hid hg2; clear hg2)
        | (go_at_call 33; refine HNX.out.mono ?_; rintro e w1 ⟨rfl, hb1, hg1⟩; have HU1 := Lib.hid (HH.out.step hg1 hb1); have HG1 := Lib.hid hg1; clear hb1 hg1))
      go_ret2
      exact ⟨HG1.out.trans HG2.out, _, rfl, by decide⟩
end Go.Proofs.Ytcjdeinmmokdgaa
