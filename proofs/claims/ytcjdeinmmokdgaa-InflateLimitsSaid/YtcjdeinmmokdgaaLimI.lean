/- inflate's unpacker: any stored block. -/
import Derived.Test.YtcjdeinmmokdgaaLimH
namespace Go.Proofs.Ytcjdeinmmokdgaa
set_option linter.unusedSimpArgs false
set_option linter.unusedVariables false
open Go.RowKit
theorem xor_other (n t : Nat) (hn : n ≤ 65535) (ht : t ≤ 65535) (h : (t : Int) ≠ 65535 - n) : bits BinOp.xor IntKind.i64 (n : Int) (t : Int) ≠ 65535 := by
  intro e
  have h1 := xor_turned n hn
  rw [i64_xor_nat _ _ (by omega) (by omega)] at e
  have e2 : (65535 - (n : Int)) = ((65535 - n : Nat) : Int) := by omega
  rw [e2, i64_xor_nat _ _ (by omega) (by omega)] at h1
  have h3 : n ^^^ t = n ^^^ (65535 - n) := by omega
  have h4 : t = 65535 - n := by
    have := congrArg (fun x => n ^^^ x) h3
    simpa [← Nat.xor_assoc, Nat.xor_self, Nat.zero_xor] using this
  omega
set_option maxRecDepth 100000 in
set_option maxHeartbeats 4000000 in
theorem ustore_turned (U r : Nat) (A : Option Addr) (c : Nat) (bs : List Int) (pos q n t : Nat) (v : Value) (out : List Int) (lim : Int) (B : Nat) (w : World) (h : Un w U r A c bs pos v out lim B) (hq : (pos + 7) / 8 = q) (hin0 : q + 4 ≤ bs.length)
    (h1 : Hf.takeVal bs (8 * q) 16 = n) (h2 : Hf.takeVal bs (8 * q + 16) 16 = t) (hn : n ≤ 65535) (ht : t ≤ 65535) (hnt : (t : Int) ≠ 65535 - n) :
    Calls Try.prog 21 #[.pointer (some ⟨U, 0, none⟩)] w (StoreF 4 B U r w) := by
  have HAL := Lib.hid (align_any r A c bs pos w h.bits)
  rw [hq, Nat.mul_comm q 8] at HAL
  have HT1 : Hid (∀ u, Un u U r A c bs (8 * q) v out lim B → Calls Try.prog 14 #[.pointer (some ⟨U, 0, none⟩), .int .i64 16] u fun e w' => e = .returned (.tuple #[.int .i64 n, .int .i64 0]) ∧ Un w' U r A c bs (8 * q + 16) v out lim B ∧ u.grownBy w' (some r)) := fun u hu =>
    (utake_any U r A c bs (8 * q) 16 _ out lim B u hu (by omega)).mono fun e w' ⟨g1, g2⟩ => by
      rw [if_pos (by omega), h1] at g2
      exact ⟨g2.1, g2.2, g1⟩
  have HT2 : Hid (∀ u, Un u U r A c bs (8 * q + 16) v out lim B → Calls Try.prog 14 #[.pointer (some ⟨U, 0, none⟩), .int .i64 16] u fun e w' => e = .returned (.tuple #[.int .i64 t, .int .i64 0]) ∧ u.grownBy w' (some r)) := fun u hu =>
    (utake_any U r A c bs (8 * q + 16) 16 _ out lim B u hu (by omega)).mono fun e w' ⟨g1, g2⟩ => by
      rw [if_pos (by omega), h2] at g2
      exact ⟨g2.1, g1⟩
  have HH := Lib.hid h
  have u0 : w.cell? ⟨U, 0, none⟩ = some (.pointer (some ⟨r, 0, none⟩)) := h.blk.cell 0
  have hxo := xor_other n t hn ht hnt
  obtain ⟨x, hx⟩ : ∃ x, bits BinOp.xor IntKind.i64 (n : Int) (t : Int) = x := ⟨_, rfl⟩
  rw [hx] at hxo
  have hxb : (x != 65535) = true := by simpa using hxo
  clear h hq h1 h2 hnt
  go_enter Try.func21, Try.ntmps21
  go_wp2_with (first
    | (go_at_call 30; refine HAL.out.mono ?_; rintro e w1 ⟨rfl, hb1, hg1⟩; have H1 := Lib.hid (HH.out.step hg1 hb1); have HK1 : Hid (KeptU B U r w w1) := KeptU.of_grown hg1; clear hb1 hg1)
    | (go_at_call 14; refine (HT2.out _ H2.out).mono ?_; rintro e w3 ⟨rfl, hg3⟩; have HK3 : Hid (KeptU B U r w w3) := HK2.out.trans (KeptU.of_grown hg3); clear hg3)
    | (go_at_call 14; refine (HT1.out _ H1.out).mono ?_; rintro e w2 ⟨rfl, hu2, hg2⟩; have H2 := Lib.hid hu2; have HK2 : Hid (KeptU B U r w w2) := HK1.out.trans (KeptU.of_grown hg2); clear hu2 hg2))
  go_ret
  exact ⟨rfl, HK3.out⟩
/-- a block was unpacked, or not -/
def BlkQ (R : Except Int (List Int × Nat)) (U r : Nat) (A : Option Addr) (c : Nat) (bs : List Int) (lim : Int) (B : Nat) (w : World) (e : Ending) (w' : World) : Prop :=
  KeptU B U r w w' ∧ match R with
    | .ok (o, q) => e = .returned (.int .i64 0) ∧ ∃ v', Un w' U r A c bs q v' o lim B
    | .error k => e = .returned (.int .i64 k) ∧ k ≠ 0
theorem StoreF.toQ {k : Int} {U r : Nat} {A : Option Addr} {c : Nat} {bs : List Int} {lim : Int} {B : Nat} {w : World} {e : Ending} {w' : World} (h : StoreF k B U r w e w') (hk : k ≠ 0) : BlkQ (.error k) U r A c bs lim B w e w' := ⟨h.2, h.1, hk⟩
theorem BlkP.toQ {R : Except Int (List Int × Nat)} {U r : Nat} {A : Option Addr} {c : Nat} {bs : List Int} {lim : Int} {B : Nat} {w : World} {e : Ending} {w' : World} (h : BlkP R U r A c bs lim B w e w') : BlkQ R U r A c bs lim B w e w' := ⟨h.1, h.2.2⟩
theorem Uf.takeM_ok {bs : List Int} {p n : Nat} (h : p + n ≤ 8 * bs.length) : Uf.takeM n bs p = .ok (Hf.takeVal bs p n, p + n) := by unfold Uf.takeM; rw [if_pos h]
theorem Uf.takeM_err {bs : List Int} {p n : Nat} (h : ¬ p + n ≤ 8 * bs.length) : Uf.takeM n bs p = .error 2 := by unfold Uf.takeM; rw [if_neg h]
theorem ustore_any (U r : Nat) (A : Option Addr) (c : Nat) (bs : List Int) (p : Nat) (v : Value) (out : List Int) (lim : Int) (B : Nat) (w : World) (h : Un w U r A c bs p v out lim B)
    (hfit : (out.length : Int) ≤ lim) (hl2 : lim ≤ 2000000) (hbl : 0 < bs.length) :
    Calls Try.prog 21 #[.pointer (some ⟨U, 0, none⟩)] w (BlkQ (Uf.storeM lim out bs p) U r A c bs lim B w) := by
  obtain ⟨q, hq⟩ : ∃ q, (p + 7) / 8 = q := ⟨_, rfl⟩
  have hS : Uf.storeM lim out bs p = Uf.bindM (Uf.takeM 16) (fun n => Uf.bindM (Uf.takeM 16) fun t => if t ≠ 65535 - n then Uf.failM 4 else if lim - out.length < n then Uf.failM 8 else Uf.bindM (Uf.bytesM n.toNat) fun b => Uf.pureM (out ++ b)) bs (8 * q) := by
    unfold Uf.storeM
    rw [Uf.bindM]
    unfold Uf.alignM
    simp only
    rw [hq, Nat.mul_comm]
  rw [hS]
  clear hS
  rw [Uf.bindM]
  by_cases c1 : 8 * q + 16 ≤ 8 * bs.length
  · rw [Uf.takeM_ok c1]
    simp only
    have r1 := Hf.takeVal_range bs (8 * q) 16
    obtain ⟨n, hn⟩ := Int.eq_ofNat_of_zero_le r1.1
    rw [hn] at r1 ⊢
    rw [Uf.bindM]
    have hn9 : n ≤ 65535 := by have := r1.2; simp at this; omega
    by_cases c2 : 8 * q + 16 + 16 ≤ 8 * bs.length
    · rw [Uf.takeM_ok c2]
      simp only
      have r2 := Hf.takeVal_range bs (8 * q + 16) 16
      obtain ⟨t, ht⟩ := Int.eq_ofNat_of_zero_le r2.1
      rw [ht] at r2 ⊢
      have ht9 : t ≤ 65535 := by have := r2.2; simp at this; omega
      by_cases c3 : (t : Int) = 65535 - (n : Int)
      · rw [if_neg (by simpa using c3)]
        rw [c3] at ht
        by_cases c4 : lim - out.length < (n : Int)
        · rw [if_pos c4]
          exact (ustore_long U r A c bs p q n v out lim B w h hq (by omega) hn ht hn9 (by omega) c4 hl2 (by omega)).mono fun e w' h => h.toQ (by decide)
        · rw [if_neg c4, Uf.bindM]
          unfold Uf.bytesM
          simp only [Int.toNat_natCast]
          by_cases c5 : 8 * q + 16 + 16 + 8 * n ≤ 8 * bs.length
          · rw [if_pos c5]
            have e1 : (8 * q + 16 + 16) / 8 = q + 4 := by omega
            have e2 : 8 * q + 16 + 16 + 8 * n = 8 * (q + 4 + n) := by omega
            rw [e1, e2]
            exact (ustore_ok U r A c bs p q n v out lim B w h hq hn ht hn9 (by omega) (by omega) hl2 (by omega)).mono fun e w' h => ⟨h.2.2, h.1, h.2.1⟩
          · rw [if_neg c5]
            exact (ustore_end3 U r A c bs p q n v out lim B w h hq (by omega) hn ht hn9 (by omega) (by omega) hl2 (by omega)).mono fun e w' h => h.toQ (by decide)
      · rw [if_pos (by simpa using c3)]
        exact (ustore_turned U r A c bs p q n t v out lim B w h hq (by omega) hn ht hn9 ht9 c3).mono fun e w' h => h.toQ (by decide)
    · rw [Uf.takeM_err c2]
      exact (ustore_end2 U r A c bs p q n v out lim B w h hq (by omega) (by omega) hn).mono fun e w' h => h.toQ (by decide)
  · rw [Uf.takeM_err c1]
    exact (ustore_end1 U r A c bs p q v out lim B w h hq (by omega)).mono fun e w' h => h.toQ (by decide)
end Go.Proofs.Ytcjdeinmmokdgaa
