/- inflate.Inflate of stored blocks. -/
import Derived.Test.YtcjdeinmmokdgaaInfF
import Derived.Deep.LoopGhost
namespace Go.Proofs.Ytcjdeinmmokdgaa
set_option linter.unusedSimpArgs false
set_option linter.unusedVariables false
open Go.RowKit
namespace Hf
/-- why a stored block is none -/
def StoreErr (bs : List Int) (q outlen : Nat) (lim k : Int) : Prop :=
  (bs.length < q + 3 ∧ k = 2) ∨ (q + 3 ≤ bs.length ∧ bs.length < q + 5 ∧ k = 2) ∨
  (q + 5 ≤ bs.length ∧ le16 bs (q + 3) = 65535 - le16 bs (q + 1) ∧ lim - outlen < le16 bs (q + 1) ∧ k = 8) ∨
  (q + 5 ≤ bs.length ∧ le16 bs (q + 3) = 65535 - le16 bs (q + 1) ∧ le16 bs (q + 1) ≤ lim - outlen ∧ bs.length < q + 5 + (le16 bs (q + 1)).toNat ∧ k = 2)
theorem inf_cases (g : Nat) (bs : List Int) (q : Nat) (out : List Int) (lim : Int) (h : inf g bs q out lim ≠ .no) :
    ∃ f, g = f + 1 ∧ ((bs.length < q + 1 ∧ inf g bs q out lim = .err 2) ∨
      (q + 1 ≤ bs.length ∧ bs.getD q 0 / 2 % 4 = 0 ∧ ∃ k, StoreErr bs q out.length lim k ∧ inf g bs q out lim = .err k) ∨
      (q + 1 ≤ bs.length ∧ bs.getD q 0 / 2 % 4 = 0 ∧ q + 5 ≤ bs.length ∧ le16 bs (q + 3) = 65535 - le16 bs (q + 1) ∧ le16 bs (q + 1) ≤ lim - out.length ∧ q + 5 + (le16 bs (q + 1)).toNat ≤ bs.length ∧
        ((bs.getD q 0 % 2 = 1 ∧ inf g bs q out lim = .ok (out ++ (bs.drop (q + 5)).take (le16 bs (q + 1)).toNat) (q + 5 + (le16 bs (q + 1)).toNat)) ∨
         (bs.getD q 0 % 2 ≠ 1 ∧ inf g bs q out lim = inf f bs (q + 5 + (le16 bs (q + 1)).toNat) (out ++ (bs.drop (q + 5)).take (le16 bs (q + 1)).toNat) lim)))) := by
  cases g with
  | zero => exact absurd rfl h
  | succ f =>
    refine ⟨f, rfl, ?_⟩
    rw [inf] at h ⊢
    by_cases c1 : bs.length < q + 1
    · rw [if_pos c1]; exact .inl ⟨c1, rfl⟩
    rw [if_neg c1] at h ⊢
    by_cases c2 : bs.getD q 0 / 2 % 4 ≠ 0
    · rw [if_pos c2] at h; exact absurd rfl h
    rw [if_neg c2] at h ⊢
    have c2' : bs.getD q 0 / 2 % 4 = 0 := by omega
    by_cases c3 : bs.length < q + 3
    · rw [if_pos c3]; exact .inr (.inl ⟨by omega, c2', 2, .inl ⟨c3, rfl⟩, rfl⟩)
    rw [if_neg c3] at h ⊢
    by_cases c4 : bs.length < q + 5
    · rw [if_pos c4]; exact .inr (.inl ⟨by omega, c2', 2, .inr (.inl ⟨by omega, c4, rfl⟩), rfl⟩)
    rw [if_neg c4] at h ⊢
    by_cases c5 : le16 bs (q + 3) ≠ 65535 - le16 bs (q + 1)
    · rw [if_pos c5] at h; exact absurd rfl h
    rw [if_neg c5] at h ⊢
    have c5' : le16 bs (q + 3) = 65535 - le16 bs (q + 1) := by omega
    by_cases c6 : lim - out.length < le16 bs (q + 1)
    · rw [if_pos c6]; exact .inr (.inl ⟨by omega, c2', 8, .inr (.inr (.inl ⟨by omega, c5', c6, rfl⟩)), rfl⟩)
    rw [if_neg c6] at h ⊢
    by_cases c7 : bs.length < q + 5 + (le16 bs (q + 1)).toNat
    · rw [if_pos c7]; exact .inr (.inl ⟨by omega, c2', 2, .inr (.inr (.inr ⟨by omega, c5', by omega, c7, rfl⟩)), rfl⟩)
    rw [if_neg c7] at h ⊢
    refine .inr (.inr ⟨by omega, c2', by omega, c5', by omega, by omega, ?_⟩)
    by_cases c8 : bs.getD q 0 % 2 = 1
    · rw [if_pos c8]; exact .inl ⟨c8, rfl⟩
    · rw [if_neg c8]; exact .inr ⟨c8, rfl⟩
theorem getD_range (bs : List Int) (h : ∀ x ∈ bs, 0 ≤ x ∧ x ≤ 255) (k : Nat) : 0 ≤ bs.getD k 0 ∧ bs.getD k 0 ≤ 255 := by
  rcases Nat.lt_or_ge k bs.length with hk | hk
  · have e : bs.getD k 0 = bs[k] := by simp [List.getD, hk]
    rw [e]; exact h _ (List.getElem_mem hk)
  · have e : bs.getD k 0 = 0 := by simp [List.getD, List.getElem?_eq_none hk]
    rw [e]; omega
theorem le16_range (bs : List Int) (h : ∀ x ∈ bs, 0 ≤ x ∧ x ≤ 255) (k : Nat) : 0 ≤ le16 bs k ∧ le16 bs k ≤ 65535 := by
  have := getD_range bs h k
  have := getD_range bs h (k + 1)
  unfold le16; omega
theorem take16' (bs : List Int) (h : ∀ x ∈ bs, 0 ≤ x ∧ x ≤ 255) (q : Nat) : takeVal bs (8 * q) 16 = le16 bs q := take16 bs q (getD_range bs h q) (getD_range bs h (q + 1))
end Hf
/-- a stored block that is none -/
theorem ustore_err (U r : Nat) (A : Option Addr) (c : Nat) (bs : List Int) (q : Nat) (v : Value) (out : List Int) (lim k : Int) (B : Nat) (w : World) (h : Un w U r A c bs (8 * q + 3) v out lim B) (hs : Hf.StoreErr bs q out.length lim k)
    (ho : out.length ≤ 2000000) (hl : 0 ≤ lim) (hl2 : lim ≤ 2000000) :
    Calls Try.prog 21 #[.pointer (some ⟨U, 0, none⟩)] w (StoreF k B U r w) := by
  have hr := h.bits.2.2.1
  have hq : (8 * q + 3 + 7) / 8 = q + 1 := by omega
  have hv := Hf.take16' bs hr (q + 1)
  have hv2 := Hf.take16' bs hr (q + 3)
  have e2 : 8 * (q + 1) + 16 = 8 * (q + 3) := by omega
  rw [← e2] at hv2
  have r1 := Hf.le16_range bs hr (q + 1)
  obtain ⟨n, hn⟩ := Int.eq_ofNat_of_zero_le r1.1
  rcases hs with ⟨h1, rfl⟩ | ⟨h1, h2, rfl⟩ | ⟨h1, h2, h3, rfl⟩ | ⟨h1, h2, h3, h4, rfl⟩
  · exact ustore_end1 U r A c bs _ (q + 1) v out lim B w h hq (by omega)
  · exact ustore_end2 U r A c bs _ (q + 1) n v out lim B w h hq (by omega) (by omega) (by rw [hv, hn])
  · exact ustore_long U r A c bs _ (q + 1) n v out lim B w h hq (by omega) (by rw [hv, hn]) (by rw [hv2, h2, hn]) (by omega) ho (by omega) hl2 hl
  · exact ustore_end3 U r A c bs _ (q + 1) n v out lim B w h hq (by omega) (by rw [hv, hn]) (by rw [hv2, h2, hn]) (by omega) ho (by omega) hl2 (by omega)
/-- a stored block -/
theorem ustore_fine (U r : Nat) (A : Option Addr) (c : Nat) (bs : List Int) (q : Nat) (v : Value) (out : List Int) (lim : Int) (B : Nat) (w : World) (h : Un w U r A c bs (8 * q + 3) v out lim B)
    (h1 : q + 5 ≤ bs.length) (h2 : Hf.le16 bs (q + 3) = 65535 - Hf.le16 bs (q + 1)) (h3 : Hf.le16 bs (q + 1) ≤ lim - out.length) (h4 : q + 5 + (Hf.le16 bs (q + 1)).toNat ≤ bs.length) (ho : out.length ≤ 2000000) (hl2 : lim ≤ 2000000) :
    Calls Try.prog 21 #[.pointer (some ⟨U, 0, none⟩)] w (StoreP U r A c bs (8 * (q + 5 + (Hf.le16 bs (q + 1)).toNat)) (out ++ (bs.drop (q + 5)).take (Hf.le16 bs (q + 1)).toNat) lim B w) := by
  have hr := h.bits.2.2.1
  have hq : (8 * q + 3 + 7) / 8 = q + 1 := by omega
  have hv := Hf.take16' bs hr (q + 1)
  have hv2 := Hf.take16' bs hr (q + 3)
  have e2 : 8 * (q + 1) + 16 = 8 * (q + 3) := by omega
  rw [← e2] at hv2
  have r1 := Hf.le16_range bs hr (q + 1)
  obtain ⟨n, hn⟩ := Int.eq_ofNat_of_zero_le r1.1
  rw [hn] at h4 h3 ⊢
  simp only [Int.ofNat_eq_natCast, Int.toNat_natCast] at h4 ⊢
  have := ustore_ok U r A c bs _ (q + 1) n v out lim B w h hq (by rw [hv, hn]) (by rw [hv2, h2, hn]) (by omega) ho (by simpa using h3) hl2 (by omega)
  rw [show q + 1 + 4 = q + 5 by omega] at this
  exact this
theorem ublock0 {R : Ending → World → Prop} (U : Nat) (w : World) (H : Calls Try.prog 21 #[.pointer (some ⟨U, 0, none⟩)] w R) (hR : ∀ e u, R e u → ∃ x, e = .returned (.int .i64 x)) :
    Calls Try.prog 15 #[.pointer (some ⟨U, 0, none⟩), .int .i64 0] w R := by
  have HH := Lib.hid H
  have HR := Lib.hid hR
  clear H hR
  go_enter Try.func15, Try.ntmps15
  go_wp2_with (first
    | (go_at_call 21; refine HH.out.mono ?_; intro e w1 h1; obtain ⟨x, rfl⟩ := HR.out _ _ h1; have H1 := Lib.hid h1; clear h1))
  exact H1.out
/-- bytes were unpacked, or not -/
def InfP (R : Hf.Inf) (w : World) (e : Ending) (w' : World) : Prop :=
  Below w.heap.size w w' ∧ match R with
    | .ok out n => ∃ v, e = .returned (.tuple #[v, .int .i64 n, .int .i64 0]) ∧ w'.ownsRow w.heap.size 5 1 v out.length (out.map (.int .u8))
    | .err k => e = .returned (.tuple #[.slice none 0 0, .int .i64 0, .int .i64 k]) ∧ k ≠ 0
    | .no => True
theorem KeptU.below {B B0 U r : Nat} {w0 w w' : World} (h : KeptU B U r w w') (hb : Below B0 w0 w) (hU : B0 ≤ U) (hr : B0 ≤ r) (hB : B0 ≤ B) (hs : B0 ≤ w.heap.size) : Below B0 w0 w' :=
  ⟨h.os.trans hb.os, h.tape.trans hb.tape, h.output.trans hb.output, Nat.le_trans hb.size h.size, fun k hk => (h.block k (by omega) (by omega) (by omega) (by omega)).trans (hb.block k hk)⟩
theorem storeErr_ne {bs : List Int} {q n : Nat} {lim k : Int} (h : Hf.StoreErr bs q n lim k) : k = 2 ∨ k = 8 := by
  rcases h with ⟨_, h⟩ | ⟨_, _, h⟩ | ⟨_, _, _, h⟩ | ⟨_, _, _, _, h⟩ <;> omega
end Go.Proofs.Ytcjdeinmmokdgaa
