/- inflate's unpacker: all distances; a byte put out. -/
import Derived.Test.YtcjdeinmmokdgaaLimE
import Derived.Test.YtcjdeinmmokdgaaLimC
namespace Go.Proofs.Ytcjdeinmmokdgaa
set_option linter.unusedSimpArgs false
set_option linter.unusedVariables false
open Go.RowKit
theorem Uf.triple {α β γ : Type} (x : α × β × γ) : ∃ a b c, x = (a, b, c) := ⟨x.1, x.2.1, x.2.2, rfl⟩
set_option maxRecDepth 100000 in
set_option maxHeartbeats 8000000 in
theorem ufar_any (d : List Int) (gd U r : Nat) (A : Option Addr) (c : Nat) (bs : List Int) (p : Nat) (v : Value) (out : List Int) (lim : Int) (B : Nat) (w : World) (h : Un w U r A c bs p v out lim B)
    (hT : TabR w gd d) (he : Hf.err d = 0) :
    Calls Try.prog 39 #[.pointer (some ⟨U, 0, none⟩), .pointer (some ⟨gd, 0, none⟩)] w (RdP (Uf.farM d bs p) U r A c bs v out lim B w) := by
  obtain ⟨s, er, k, hn⟩ : ∃ s er k, Hf.next d bs p = (s, er, k) := Uf.triple _
  have hs0 : 0 ≤ s := by have := Uf.next_nonneg d bs p; rw [hn] at this; exact this
  by_cases hm : er = 0 ∧ 4 ≤ s ∧ s < 30
  · obtain ⟨rfl, h1, h2⟩ := hm
    obtain ⟨i, hi⟩ : ∃ i : Nat, i = (s - 2).toNat % 2 := ⟨_, rfl⟩
    obtain ⟨j, hj⟩ : ∃ j : Nat, j = (s - 2).toNat / 2 := ⟨_, rfl⟩
    have e : s = 2 + 2 * (j : Int) + i := by omega
    rw [e] at hn
    exact ufar_mid i j k (by omega) (by omega) d gd U r A c bs p v out lim B w h hT he hn
  · have HNX := next_any gd r A c d bs p w hT h.bits he
    rw [hn] at HNX
    have HNX := Lib.hid HNX
    have u0 : w.cell? ⟨U, 0, none⟩ = some (.pointer (some ⟨r, 0, none⟩)) := h.blk.cell 0
    have HH := Lib.hid h
    clear h hT he
    by_cases c1 : er = 0
    · subst c1
      by_cases c2 : s < 4
      · have hR : Uf.farM d bs p = .ok (s + 1, p + k) := by
          unfold Uf.farM; rw [Uf.bindM]; unfold Uf.nextM; rw [hn]; simp only [if_true]; rw [if_pos c2]; rfl
        rw [hR]
        clear hR hn
        go_enter Try.func39, Try.ntmps39
        go_wp2_with (first
          | (go_at_call 33; refine HNX.out.mono ?_; rintro e w1 ⟨rfl, hb1, hg1⟩; have HU1 := Lib.hid (HH.out.step hg1 hb1); have HG1 := Lib.hid hg1; clear hb1 hg1))
        go_ret2
        refine ⟨HG1.out, rfl, HU1.out⟩
      · have c3 : 30 ≤ s := by omega
        have hR : Uf.farM d bs p = .error 4 := by
          unfold Uf.farM; rw [Uf.bindM]; unfold Uf.nextM; rw [hn]; simp only [if_true]; rw [if_neg c2, if_pos c3]; rfl
        rw [hR]
        clear hR hn hm
        go_enter Try.func39, Try.ntmps39
        go_wp2_with (first
          | (go_at_call 33; refine HNX.out.mono ?_; rintro e w1 ⟨rfl, hb1, hg1⟩; have HG1 := Lib.hid hg1; clear hb1 hg1))
        go_ret2
        refine ⟨HG1.out, _, rfl, by decide⟩
    · have hR : Uf.farM d bs p = .error er := by
        unfold Uf.farM; rw [Uf.bindM]; unfold Uf.nextM; rw [hn]; simp only; rw [if_neg c1]
      rw [hR]
      clear hR hn hm
      go_enter Try.func39, Try.ntmps39
      go_wp2_with (first
        | (go_at_call 33; refine HNX.out.mono ?_; rintro e w1 ⟨rfl, hb1, hg1⟩; have HG1 := Lib.hid hg1; clear hb1 hg1))
      go_ret2
      refine ⟨HG1.out, _, rfl, c1⟩
/-- a block's part was unpacked, or not -/
def BlkP (R : Except Int (List Int × Nat)) (U r : Nat) (A : Option Addr) (c : Nat) (bs : List Int) (lim : Int) (B : Nat) (w : World) (e : Ending) (w' : World) : Prop :=
  KeptU B U r w w' ∧ (∀ g l, TabR w g l → TabR w' g l) ∧ match R with
    | .ok (o, q) => e = .returned (.int .i64 0) ∧ ∃ v', Un w' U r A c bs q v' o lim B
    | .error k => e = .returned (.int .i64 k) ∧ k ≠ 0
set_option maxRecDepth 100000 in
set_option maxHeartbeats 8000000 in
theorem uput_full (U r : Nat) (A : Option Addr) (c : Nat) (bs : List Int) (pos : Nat) (v : Value) (out : List Int) (lim : Int) (B : Nat) (x : Int) (w : World) (h : Un w U r A c bs pos v out lim B) (hl : lim ≤ (out.length : Int)) :
    Calls Try.prog 34 #[.pointer (some ⟨U, 0, none⟩), .int .u8 x] w (BlkP (.error 8) U r A c bs lim B w) := by
  obtain ⟨K, cv, rfl, -, hKn⟩ := own_slice3 h.own
  obtain ⟨m, hm⟩ : ∃ m, m = out.length := ⟨_, rfl⟩
  rw [← hm] at hl
  have u1 : w.cell? ⟨U, 1, none⟩ = some (.slice K m cv) := by rw [hm]; exact h.blk.cell 1
  have u2 : w.cell? ⟨U, 2, none⟩ = some (.int .i64 lim) := h.blk.cell 2
  clear h hm
  go_enter Try.func34, Try.ntmps34
  go_wp2
  go_quiet (fail)
  go_wp2
  go_ret
  exact ⟨(KeptU.refl B U r w).drewN _, fun g l hT => hT.drewN _, rfl, by decide⟩
end Go.Proofs.Ytcjdeinmmokdgaa
