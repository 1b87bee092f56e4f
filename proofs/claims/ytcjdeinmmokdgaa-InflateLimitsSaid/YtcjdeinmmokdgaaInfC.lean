/- inflate's unpacker: take, store. -/
import Derived.Test.YtcjdeinmmokdgaaInfB
namespace Go.Proofs.Ytcjdeinmmokdgaa
set_option linter.unusedSimpArgs false
set_option linter.unusedVariables false
open Go.RowKit
/-- an unpacker: its reader, the bytes so far, the limit -/
structure Un (w : World) (U r : Nat) (A : Option Addr) (c : Nat) (bs : List Int) (pos : Nat) (v : Value) (out : List Int) (lim : Int) (B : Nat) : Prop where
  blk : Blk w U 36 [.pointer (some ⟨r, 0, none⟩), v, .int .i64 lim]
  bits : BitsAt w r A c bs pos
  own : w.ownsRow B 5 1 v out.length (out.map (.int .u8))
  hr : r < B
  hU : U < B
  hrU : U ≠ r
  hA : ∀ ad, A = some ad → ad.block < B ∧ ad.block ≠ r ∧ ad.block ≠ U
  hB : B ≤ w.heap.size
theorem Un.step {w w' : World} {U r : Nat} {A : Option Addr} {c : Nat} {bs : List Int} {pos pos' : Nat} {v : Value} {out : List Int} {lim : Int} {B : Nat} (h : Un w U r A c bs pos v out lim B) (hg : w.grownBy w' (some r)) (hb : BitsAt w' r A c bs pos') : Un w' U r A c bs pos' v out lim B :=
  ⟨h.blk.grown hg (by intro e; injection e with e; exact h.hrU e), hb, h.own.kept hg (by
    cases hv : v.ownBlock with
    | none => exact .inl rfl
    | some k => right; intro e; injection e with e; have := (h.own.lt k hv).1; have := h.hr; omega), h.hr, h.hU, h.hrU, h.hA, Nat.le_trans h.hB hg.size⟩
theorem Un.drewN {w : World} {U r : Nat} {A : Option Addr} {c : Nat} {bs : List Int} {pos : Nat} {v : Value} {out : List Int} {lim : Int} {B : Nat} (h : Un w U r A c bs pos v out lim B) (n : Nat) : Un (w.drewN n) U r A c bs pos v out lim B :=
  ⟨h.blk, h.bits, h.own, h.hr, h.hU, h.hrU, h.hA, h.hB⟩
/-- bits were taken by the unpacker, or there were too few -/
def TakeU (U r : Nat) (A : Option Addr) (c : Nat) (bs : List Int) (pos n : Nat) (v : Value) (out : List Int) (lim : Int) (B : Nat) (w : World) (e : Ending) (w' : World) : Prop :=
  w.grownBy w' (some r) ∧ if pos + n ≤ 8 * bs.length then e = .returned (.tuple #[.int .i64 (Hf.takeVal bs pos n), .int .i64 0]) ∧ Un w' U r A c bs (pos + n) v out lim B else e = .returned (.tuple #[.int .i64 0, .int .i64 2]) ∧ Un w' U r A c bs pos v out lim B
theorem utake_any (U r : Nat) (A : Option Addr) (c : Nat) (bs : List Int) (pos n : Nat) (v : Value) (out : List Int) (lim : Int) (B : Nat) (w : World) (h : Un w U r A c bs pos v out lim B) (hn : n ≤ 24) :
    Calls Try.prog 14 #[.pointer (some ⟨U, 0, none⟩), .int .i64 n] w (TakeU U r A c bs pos n v out lim B w) := by
  have HT := Lib.hid (take_any r A c bs pos n w h.bits hn)
  have HH := Lib.hid h
  have u0 : w.cell? ⟨U, 0, none⟩ = some (.pointer (some ⟨r, 0, none⟩)) := h.blk.cell 0
  clear h
  by_cases hok : pos + n ≤ 8 * bs.length
  · have HT : Hid (Calls Try.prog 20 #[.pointer (some ⟨r, 0, none⟩), .int .i64 n] w fun e w' => e = .returned (.tuple #[.int .i64 (Hf.takeVal bs pos n), .bool true]) ∧ BitsAt w' r A c bs (pos + n) ∧ w.grownBy w' (some r)) := HT.out.mono fun e w' ⟨h1, h2⟩ => by
      rw [if_pos hok] at h2
      exact ⟨h2.1, h2.2, h1⟩
    have HOK := Lib.hid hok
    obtain ⟨V, hV⟩ : ∃ V, V = Hf.takeVal bs pos n := ⟨_, rfl⟩
    rw [← hV] at HT
    have HV := Lib.hid hV
    clear hok hV
    go_enter Try.func14, Try.ntmps14
    go_wp2_with (first
      | (go_at_call 20; refine HT.out.mono ?_; rintro e w2 ⟨rfl, hb2, hg2⟩; have HB2 := Lib.hid hb2; have HG2 := Lib.hid hg2; clear hb2 hg2))
    go_ret2
    refine ⟨HG2.out, ?_⟩
    rw [if_pos HOK.out, ← HV.out]
    exact ⟨rfl, HH.out.step HG2.out HB2.out⟩
  · have HT : Hid (Calls Try.prog 20 #[.pointer (some ⟨r, 0, none⟩), .int .i64 n] w fun e w' => e = .returned (.tuple #[.int .i64 0, .bool false]) ∧ BitsAt w' r A c bs pos ∧ w.grownBy w' (some r)) := HT.out.mono fun e w' ⟨h1, h2⟩ => by
      rw [if_neg hok] at h2
      exact ⟨h2.1, h2.2, h1⟩
    have HOK := Lib.hid hok
    clear hok
    go_enter Try.func14, Try.ntmps14
    go_wp2_with (first
      | (go_at_call 20; refine HT.out.mono ?_; rintro e w2 ⟨rfl, hb2, hg2⟩; have HB2 := Lib.hid hb2; have HG2 := Lib.hid hg2; clear hb2 hg2))
    go_ret2
    refine ⟨HG2.out, ?_⟩
    rw [if_neg HOK.out]
    exact ⟨rfl, HH.out.step HG2.out HB2.out⟩
theorem own_slice3 {w : World} {base n : Nat} {e : TypeId} {v : Value} {xs : List Value} (h : w.ownsRow base e 1 v n xs) : ∃ (K : Option Addr) (c : Nat), v = .slice K n c ∧ Cells w K xs ∧ (K = none → n = 0 ∧ c = 0) := by
  rcases h.2 with ⟨rfl, rfl⟩ | ⟨g, c, cur, rfl, _, _, h2, _⟩
  · have hx : xs = [] := List.eq_nil_of_length_eq_zero (by simpa using h.1)
    subst hx
    exact ⟨none, 0, rfl, fun i v hi => by simp at hi, fun _ => ⟨rfl, rfl⟩⟩
  · exact ⟨_, c, rfl, fun i v hi => ⟨_, rfl, h.cells (g := g) rfl i v hi⟩, fun e => by simp at e⟩
theorem xor_turned (n : Nat) (hn : n ≤ 65535) : bits BinOp.xor IntKind.i64 (n : Int) (65535 - (n : Int)) = 65535 := by
  have e : (65535 - (n : Int)) = ((65535 - n : Nat) : Int) := by omega
  rw [e]
  have h : n ^^^ (65535 - n) = 65535 := by
    apply Nat.eq_of_testBit_eq
    intro i
    have h1 : 65535 - n = 2 ^ 16 - (n + 1) := by omega
    have h2 : (65535 : Nat) = 2 ^ 16 - 1 := by decide
    rw [Nat.testBit_xor, h1, Nat.testBit_two_pow_sub_succ (by omega), h2, Nat.testBit_two_pow_sub_one]
    by_cases hi : i < 16
    · simp [hi]
    · have h3 : n.testBit i = false := Nat.testBit_lt_two_pow (Nat.lt_of_lt_of_le (show n < 2 ^ 16 by omega) (Nat.pow_le_pow_right (by omega) (by omega)))
      simp [hi, h3]
  rw [i64_xor_nat _ _ (by omega) (by omega), h]
  rfl
end Go.Proofs.Ytcjdeinmmokdgaa
