/- inflate's unpacker: a block of symbols. -/
import Derived.Test.YtcjdeinmmokdgaaLimG
namespace Go.Proofs.Ytcjdeinmmokdgaa
set_option linter.unusedSimpArgs false
set_option linter.unusedVariables false
open Go.RowKit
namespace Uf
theorem symsTo_lt (l : List Int) : ∀ k, ∀ x ∈ Hf.symsTo l k, x ≤ l.length := by
  intro k
  induction k with
  | zero => intro x hx; simp [Hf.symsTo] at hx
  | succ k ih =>
    intro x hx
    simp only [Hf.symsTo, List.mem_append] at hx
    rcases hx with hx | hx
    · exact ih x hx
    · simp only [Hf.symsAt, List.mem_map, List.mem_filter, List.mem_range] at hx
      obtain ⟨s, ⟨h1, _⟩, rfl⟩ := hx
      omega
theorem nx_le {A : Nat} {len : Nat → Nat} {st cn get : Nat → Int} (N : Nat) (hg : ∀ i, get i ≤ N) (bs : List Int) (p : Nat) : ∀ f k, (nx A len st cn get bs p f k).1 ≤ N := by
  intro f
  induction f with
  | zero => intro k; exact Int.natCast_nonneg N
  | succ f ih =>
    intro k
    rw [nx]
    by_cases c1 : A ≤ len k
    · rw [if_pos c1]; exact Int.natCast_nonneg N
    rw [if_neg c1]
    by_cases c2 : 8 * bs.length ≤ p + k
    · rw [if_pos c2]; exact Int.natCast_nonneg N
    rw [if_neg c2]
    by_cases c3 : Hf.val bs p (k + 1) - st (k + 1) < cn (k + 1)
    · rw [if_pos c3]; exact hg _
    · rw [if_neg c3]; exact ih _
theorem next_le (l bs : List Int) (p : Nat) : (Hf.next l bs p).1 ≤ l.length := by
  rw [Hf.next, nx_eq]
  refine nx_le l.length (fun i => ?_) bs p _ _
  have hS := symsTo_lt l 15
  generalize Hf.symsTo l 15 = S at hS ⊢
  rcases Nat.lt_or_ge i S.length with h | h
  · have e : S.getD i 0 = S[i] := by simp [List.getD, h]
    rw [e]; exact hS _ (List.getElem_mem h)
  · have e : S.getD i 0 = 0 := by simp [List.getD, List.getElem?_eq_none h]
    rw [e]; exact Int.natCast_nonneg _
theorem next_pos (l bs : List Int) (p : Nat) (h : (Hf.next l bs p).2.1 = 0) : 1 ≤ (Hf.next l bs p).2.2 := by
  obtain ⟨A, len, st, cn, get, F, he⟩ := next_eq l
  rw [he] at h ⊢
  exact (nx_ok bs p F 0 h).1
theorem next_pos2 (l bs : List Int) (p : Nat) (h : (Hf.next l bs p).2.1 = 0) : p + (Hf.next l bs p).2.2 ≤ 8 * bs.length := by
  obtain ⟨A, len, st, cn, get, F, he⟩ := next_eq l
  rw [he] at h ⊢
  exact (nx_ok bs p F 0 h).2.1
theorem coded_next {lim : Int} {l d out bs : List Int} {p g : Nat} {s : Int} {k : Nat} (hn : Hf.next l bs p = (s, 0, k)) :
    codedM lim l d (g + 1) out bs p = (if s = 256 then pureM out else if s < 256 then (if lim ≤ out.length then failM 8 else codedM lim l d g (out ++ [s])) else bindM (copiedM lim s d out) fun o => codedM lim l d g o) bs (p + k) := by
  rw [codedM, bindM]; unfold nextM; rw [hn]; rfl
theorem coded_err {lim : Int} {l d out bs : List Int} {p g : Nat} {s er : Int} {k : Nat} (hn : Hf.next l bs p = (s, er, k)) (he : er ≠ 0) : codedM lim l d (g + 1) out bs p = .error er := by
  rw [codedM, bindM]; unfold nextM; rw [hn]; simp only; rw [if_neg he]
end Uf
/-- what holds ahead of a symbol -/
def CdR (R : Except Int (List Int × Nat)) (l d : List Int) (U r : Nat) (A : Option Addr) (c : Nat) (bs : List Int) (lim : Int) (B : Nat) (w : World) (g : Nat) (wr : World) : Prop :=
  ∃ p out v, R = Uf.codedM lim l d g out bs p ∧ 8 * bs.length < p + g ∧ (out.length : Int) ≤ lim ∧ Un wr U r A c bs p v out lim B ∧ KeptU B U r w wr ∧ ∀ g l, TabR w g l → TabR wr g l
set_option maxRecDepth 100000 in
set_option maxHeartbeats 16000000 in
theorem ucoded_any (l d : List Int) (gl gd U r : Nat) (A : Option Addr) (c : Nat) (bs : List Int) (p : Nat) (v : Value) (out : List Int) (lim : Int) (B : Nat) (w : World) (h : Un w U r A c bs p v out lim B)
    (hfit : (out.length : Int) ≤ lim) (hl2 : lim ≤ 2000000) (hTl : TabR w gl l) (hel : Hf.err l = 0) (hTd : TabR w gd d) (hed : Hf.err d = 0) (hlen : 8 * bs.length < Uf.fuel) :
    Calls Try.prog 24 #[.pointer (some ⟨U, 0, none⟩), .pointer (some ⟨gl, 0, none⟩), .pointer (some ⟨gd, 0, none⟩)] w (BlkP (Uf.codedM lim l d Uf.fuel out bs p) U r A c bs lim B w) := by
  obtain ⟨-, hn3, -⟩ := Hf.err_room hel
  obtain ⟨R, HR⟩ : ∃ R, R = Uf.codedM lim l d Uf.fuel out bs p := ⟨_, rfl⟩
  rw [← HR]
  obtain ⟨F, HF⟩ : ∃ F, F = Uf.fuel := ⟨_, rfl⟩
  rw [← HF] at HR hlen
  have HRR := Lib.hid HR
  have HH := Lib.hid h
  have HTL := Lib.hid hTl
  have HTD := Lib.hid hTd
  have HFIT := Lib.hid hfit
  have hlen2 : 8 * bs.length < p + F := by omega
  clear h hTl hTd HR hfit HF hlen
  go_enter Try.func24, Try.ntmps24
  go_wp2_with fail
  go_loopg [] F (fun g wr => CdR R l d U r A c bs lim B w g wr)
  case atStart => exact ⟨p, out, v, HRR.out, hlen2, HFIT.out, HH.out, KeptU.refl _ _ _ _, fun g l h => h⟩
  case round =>
    obtain ⟨p1, o, v1, hR, hpg, hol, hu, hk, ht⟩ := hrel
    obtain ⟨s, er, k, hn⟩ : ∃ s er k, Hf.next l bs p1 = (s, er, k) := Uf.triple _
    have hp8 : p1 ≤ 8 * bs.length := hu.bits.2.2.2.1
    have hs0 : 0 ≤ s := by have := Uf.next_nonneg l bs p1; rw [hn] at this; exact this
    have hs1 : s ≤ 320 := by have := Uf.next_le l bs p1; rw [hn] at this; simp only at this; omega
    have HNX := next_any gl r A c l bs p1 wr (ht _ _ HTL.out) hu.bits hel
    rw [hn] at HNX
    have HNX := Lib.hid HNX
    have HU := Lib.hid hu
    have HK := Lib.hid hk
    have HTR := Lib.hid ht
    have u0 : wr.cell? ⟨U, 0, none⟩ = some (.pointer (some ⟨r, 0, none⟩)) := hu.blk.cell 0
    obtain ⟨f, rfl⟩ : ∃ f, gk = f + 1 := ⟨gk - 1, by omega⟩
    by_cases c1 : er = 0
    · subst c1
      have hk1 : 1 ≤ k := by have := Uf.next_pos l bs p1 (by rw [hn]); rw [hn] at this; exact this
      rw [Uf.coded_next hn] at hR
      by_cases c2 : s = 256
      · rw [if_pos c2] at hR
        subst c2
        have HR2 := Lib.hid (show R = .ok (o, p1 + k) from hR)
        clear hR hu hk ht hn
        go_wp2_with (first
          | (go_at_call 33; refine HNX.out.mono ?_; rintro e w1 ⟨rfl, hb1, hg1⟩; have HU1 := Lib.hid (HU.out.step hg1 hb1); have HG1 := Lib.hid hg1; clear hb1 hg1))
        go_ret
        rw [HR2.out]
        exact ⟨HK.out.trans (KeptU.of_grown HG1.out), fun g l h => (HTR.out g l h).bits HU.out.bits.1 HG1.out, rfl, _, HU1.out⟩
      rw [if_neg c2] at hR
      by_cases c3 : s < 256
      · rw [if_pos c3] at hR
        have hws : IntKind.u8.wrap s = s := by rw [IntKind.wrap_u8]; omega
        by_cases c4 : lim ≤ (o.length : Int)
        · rw [if_pos c4] at hR
          have HR2 := Lib.hid (show R = .error 8 from hR)
          clear hR hu hk ht hn
          go_wp2_with (first
            | (go_at_call 34; refine (uput_full U r A c bs (p1 + k) v1 o lim B s w1 HU1.out c4).mono ?_; rintro e w2 ⟨hk2, ht2, rfl, -⟩; have HK2 := Lib.hid hk2; have HT2 := Lib.hid ht2; clear hk2 ht2)
            | (go_at_call 33; refine HNX.out.mono ?_; rintro e w1 ⟨rfl, hb1, hg1⟩; have HU1 := Lib.hid (HU.out.step hg1 hb1); have HG1 := Lib.hid hg1; clear hb1 hg1))
          go_ret
          rw [HR2.out]
          exact .err ((HK.out.trans (KeptU.of_grown HG1.out)).trans HK2.out) (fun g l h => HT2.out _ _ ((HTR.out g l h).bits HU.out.bits.1 HG1.out)) (by decide)
        · rw [if_neg c4] at hR
          have HR2 := Lib.hid hR
          clear hR hu hk ht hn
          go_wp2_with (first
            | (go_at_call 34; refine (put_ok U r A c bs (p1 + k) v1 o lim B s w1 HU1.out (by omega) hl2).mono ?_; rintro e w2 ⟨rfl, ⟨v2, hu2⟩, hk2, ht2⟩; have HU2 := Lib.hid hu2; have HK2 := Lib.hid hk2; have HT2 := Lib.hid ht2; clear hu2 hk2 ht2)
            | (go_at_call 33; refine HNX.out.mono ?_; rintro e w1 ⟨rfl, hb1, hg1⟩; have HU1 := Lib.hid (HU.out.step hg1 hb1); have HG1 := Lib.hid hg1; clear hb1 hg1))
          go_roundg f
          case rel => exact ⟨p1 + k, o ++ [s], v2, HR2.out, by omega, by simp; omega, HU2.out, (HK.out.trans (KeptU.of_grown HG1.out)).trans HK2.out, fun g l h => HT2.out _ _ ((HTR.out g l h).bits HU.out.bits.1 HG1.out)⟩
          case measure => omega
      · rw [if_neg c3, Uf.bindM] at hR
        have HC : ∀ w1, Un w1 U r A c bs (p1 + k) v1 o lim B → wr.grownBy w1 (some r) → Calls Try.prog 35 #[.pointer (some ⟨U, 0, none⟩), .int .i64 s, .pointer (some ⟨gd, 0, none⟩)] w1 (BlkP (Uf.copiedM lim s d o bs (p1 + k)) U r A c bs lim B w1) := fun w1 h1 hg =>
          ucopied_any s (by omega) (by omega) d gd U r A c bs (p1 + k) v1 o lim B w1 h1 hol hl2 ((ht _ _ HTD.out).bits hu.bits.1 hg) hed
        cases hcm : Uf.copiedM lim s d o bs (p1 + k) with
        | error j =>
          rw [hcm] at hR HC
          have HR2 := Lib.hid (show R = .error j from hR)
          have HC := Lib.hid HC
          clear hR hu hk ht hn hcm
          go_wp2_with (first
            | (go_at_call 35; refine (HC.out w1 HU1.out HG1.out).mono ?_; rintro e w2 ⟨hk2, ht2, rfl, hj⟩; have HK2 := Lib.hid hk2; have HT2 := Lib.hid ht2; clear hk2 ht2)
            | (go_at_call 33; refine HNX.out.mono ?_; rintro e w1 ⟨rfl, hb1, hg1⟩; have HU1 := Lib.hid (HU.out.step hg1 hb1); have HG1 := Lib.hid hg1; clear hb1 hg1))
          go_ret
          rw [HR2.out]
          exact .err ((HK.out.trans (KeptU.of_grown HG1.out)).trans HK2.out) (fun g l h => HT2.out _ _ ((HTR.out g l h).bits HU.out.bits.1 HG1.out)) hj
        | ok x =>
          obtain ⟨o2, q⟩ := x
          rw [hcm] at hR HC
          have HR2 := Lib.hid (show R = Uf.codedM lim l d f o2 bs q from hR)
          have HC := Lib.hid HC
          have hq := (Uf.stable_copied lim s d o bs (p1 + k) o2 q (by
            have := Uf.next_pos2 l bs p1 (by rw [hn]); rw [hn] at this; exact this) hcm).1
          have hf2 := Uf.fit_copied lim s d o hol bs (p1 + k) o2 q hcm
          have HF2 := Lib.hid hf2
          clear hR hu hk ht hn hcm hf2
          go_wp2_with (first
            | (go_at_call 35; refine (HC.out w1 HU1.out HG1.out).mono ?_; rintro e w2 ⟨hk2, ht2, rfl, v2, hu2⟩; have HU2 := Lib.hid hu2; have HK2 := Lib.hid hk2; have HT2 := Lib.hid ht2; clear hu2 hk2 ht2)
            | (go_at_call 33; refine HNX.out.mono ?_; rintro e w1 ⟨rfl, hb1, hg1⟩; have HU1 := Lib.hid (HU.out.step hg1 hb1); have HG1 := Lib.hid hg1; clear hb1 hg1))
          go_roundg f
          case rel => exact ⟨q, o2, v2, HR2.out, by omega, HF2.out, HU2.out, (HK.out.trans (KeptU.of_grown HG1.out)).trans HK2.out, fun g l h => HT2.out _ _ ((HTR.out g l h).bits HU.out.bits.1 HG1.out)⟩
          case measure => omega
    · rw [Uf.coded_err hn c1] at hR
      have HR2 := Lib.hid hR
      clear hR hu hk ht hn
      go_wp2_with (first
        | (go_at_call 33; refine HNX.out.mono ?_; rintro e w1 ⟨rfl, hb1, hg1⟩; have HG1 := Lib.hid hg1; clear hb1 hg1))
      go_ret
      rw [HR2.out]
      exact .err (HK.out.trans (KeptU.of_grown HG1.out)) (fun g l h => (HTR.out g l h).bits HU.out.bits.1 HG1.out) c1
end Go.Proofs.Ytcjdeinmmokdgaa
