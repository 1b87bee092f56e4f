/- inflate, as a plain function of bits: its parts; what comes of a greater limit, and of other bytes behind. -/
import Derived.Test.YtcjdeinmmokdgaaLimA
namespace Go.Proofs.Ytcjdeinmmokdgaa
set_option linter.unusedSimpArgs false
set_option linter.unusedVariables false
open Go.RowKit
namespace Uf
theorem stable_if {α : Type} {c : Prop} [Decidable c] {m m' : M α} (h : Stable m) (h' : Stable m') : Stable (if c then m else m') := by split <;> assumption
theorem err_if {α : Type} {c : Prop} [Decidable c] {m m' : M α} (h : ErrIn m) (h' : ErrIn m') : ErrIn (if c then m else m') := by split <;> assumption
theorem mono_if {α : Type} {c : Prop} [Decidable c] {m m' n n' : M α} (h : Mono m n) (h' : Mono m' n') : Mono (if c then m else m') (if c then n else n') := by split <;> assumption
/-- more than this is never read -/
def fuel : Nat := 100000
def longM (s : Int) : M Int :=
  if s < 265 then pureM (s - 254) else if s = 285 then pureM 258 else if 285 < s then failM 4
  else bindM (takeM ((s - 261).toNat / 4)) fun v => pureM ((4 + (s - 261) % 4) * 2 ^ ((s - 261).toNat / 4) + 3 + v)
def farM (d : List Int) : M Int := bindM (nextM d) fun s =>
  if s < 4 then pureM (s + 1) else if 30 ≤ s then failM 4
  else bindM (takeM ((s - 2).toNat / 2)) fun v => pureM ((2 + (s - 2) % 2) * 2 ^ ((s - 2).toNat / 2) + 1 + v)
/-- so many bytes copied from so far back -/
def copyL (back : Nat) : Nat → List Int → List Int
  | 0, out => out
  | n + 1, out => copyL back n (out ++ [out.getD (out.length - back) 0])
theorem copyL_len (back n : Nat) : ∀ out, (copyL back n out).length = out.length + n := by
  induction n with
  | zero => intro out; rfl
  | succ n ih => intro out; rw [copyL, ih]; simp; omega
def copiedM (lim : Int) (s : Int) (d : List Int) (out : List Int) : M (List Int) := bindM (longM s) fun n => bindM (farM d) fun back =>
  if (out.length : Int) < back then failM 4 else if lim < out.length + n then failM 8 else pureM (copyL back.toNat n.toNat out)
def codedM (lim : Int) (l d : List Int) : Nat → List Int → M (List Int)
  | 0, _ => failM 4
  | f + 1, out => bindM (nextM l) fun s => if s = 256 then pureM out else if s < 256 then (if lim ≤ out.length then failM 8 else codedM lim l d f (out ++ [s])) else bindM (copiedM lim s d out) fun o => codedM lim l d f o
def lengthsM (t : List Int) (many : Nat) : Nat → List Int → M (List Int)
  | 0, _ => failM 4
  | f + 1, a => if many ≤ a.length then pureM a else bindM (nextM t) fun s =>
    if s < 16 then lengthsM t many f (a ++ [s])
    else if s = 16 then (if a.length = 0 then failM 4 else bindM (takeM 2) fun n => if (many : Int) - a.length < n + 3 then failM 4 else lengthsM t many f (a ++ List.replicate (n + 3).toNat (a.getD (a.length - 1) 0)))
    else if s = 17 then bindM (takeM 3) fun n => if (many : Int) - a.length < n + 3 then failM 4 else lengthsM t many f (a ++ List.replicate (n + 3).toNat 0)
    else bindM (takeM 7) fun n => if (many : Int) - a.length < n + 11 then failM 4 else lengthsM t many f (a ++ List.replicate (n + 11).toNat 0)
def ord (i : Nat) : Nat := [16, 17, 18, 0, 8, 7, 9, 6, 10, 5, 11, 4, 12, 3, 13, 2, 14, 1, 15].getD i 0
/-- the lengths of lengths: so many are to come, from number i on -/
def headM : Nat → Nat → List Int → M (List Int)
  | 0, _, l => pureM l
  | k + 1, i, l => bindM (takeM 3) fun v => headM k (i + 1) (l.set (ord i) v)
def newM (l : List Int) : M Unit := if Hf.err l = 0 then pureM () else failM (Hf.err l)
def aheadM : M (Nat × Nat × List Int) := bindM (takeM 5) fun a => bindM (takeM 5) fun b => bindM (takeM 4) fun c =>
  if 286 < a + 257 ∨ 30 < b + 1 then failM 4 else bindM (headM (c + 4).toNat 0 (List.replicate 19 0)) fun l => bindM (newM l) fun _ => pureM ((a + 257).toNat, (b + 1).toNat, l)
def tablesM : M (List Int × List Int) := bindM aheadM fun x => bindM (lengthsM x.2.2 (x.1 + x.2.1) fuel []) fun l =>
  if l.getD 256 0 = 0 then failM 4 else bindM (newM (l.take x.1)) fun _ => bindM (newM (l.drop x.1)) fun _ => pureM (l.take x.1, l.drop x.1)
def storeM (lim : Int) (out : List Int) : M (List Int) := bindM alignM fun _ => bindM (takeM 16) fun n => bindM (takeM 16) fun t =>
  if t ≠ 65535 - n then failM 4 else if lim - out.length < n then failM 8 else bindM (bytesM n.toNat) fun b => pureM (out ++ b)
def blockM (lim : Int) (kind : Int) (out : List Int) : M (List Int) :=
  if kind = 0 then storeM lim out else if kind = 1 then codedM lim Hf.usualL Hf.usualD fuel out else if kind = 2 then bindM tablesM fun x => codedM lim x.1 x.2 fuel out else failM 4
def inflM (lim : Int) : Nat → List Int → M (List Int)
  | 0, _ => failM 4
  | f + 1, out => bindM (takeM 1) fun last => bindM (takeM 2) fun kind => bindM (blockM lim kind out) fun o => if last = 1 then pureM o else inflM lim f o
/-! ### the bits behind what was read play no part -/
theorem stable_long (s : Int) : Stable (longM s) := stable_if (stable_pure _) (stable_if (stable_pure _) (stable_if (stable_fail _) (stable_bind (stable_take _) fun v => stable_pure _)))
theorem stable_far (d : List Int) : Stable (farM d) := stable_bind (stable_next d) fun s => stable_if (stable_pure _) (stable_if (stable_fail _) (stable_bind (stable_take _) fun v => stable_pure _))
theorem stable_copied (lim s : Int) (d out : List Int) : Stable (copiedM lim s d out) := stable_bind (stable_long s) fun n => stable_bind (stable_far d) fun b => stable_if (stable_fail _) (stable_if (stable_fail _) (stable_pure _))
theorem stable_coded (lim : Int) (l d : List Int) : ∀ f out, Stable (codedM lim l d f out) := by
  intro f
  induction f with
  | zero => intro out; exact stable_fail _
  | succ f ih => intro out; exact stable_bind (stable_next l) fun s => stable_if (stable_pure _) (stable_if (stable_if (stable_fail _) (ih _)) (stable_bind (stable_copied _ _ _ _) fun o => ih _))
theorem stable_lengths (t : List Int) (many : Nat) : ∀ f a, Stable (lengthsM t many f a) := by
  intro f
  induction f with
  | zero => intro a; exact stable_fail _
  | succ f ih =>
    intro a
    exact stable_if (stable_pure _) (stable_bind (stable_next t) fun s => stable_if (ih _) (stable_if (stable_if (stable_fail _) (stable_bind (stable_take _) fun n => stable_if (stable_fail _) (ih _))) (stable_if (stable_bind (stable_take _) fun n => stable_if (stable_fail _) (ih _)) (stable_bind (stable_take _) fun n => stable_if (stable_fail _) (ih _)))))
theorem stable_head : ∀ k i l, Stable (headM k i l) := by
  intro k
  induction k with
  | zero => intro i l; exact stable_pure _
  | succ k ih => intro i l; exact stable_bind (stable_take _) fun v => ih _ _
theorem stable_new (l : List Int) : Stable (newM l) := stable_if (stable_pure _) (stable_fail _)
theorem stable_ahead : Stable aheadM := stable_bind (stable_take _) fun a => stable_bind (stable_take _) fun b => stable_bind (stable_take _) fun c => stable_if (stable_fail _) (stable_bind (stable_head _ _ _) fun l => stable_bind (stable_new l) fun _ => stable_pure _)
theorem stable_tables : Stable tablesM := stable_bind stable_ahead fun x => stable_bind (stable_lengths _ _ _ _) fun l => stable_if (stable_fail _) (stable_bind (stable_new _) fun _ => stable_bind (stable_new _) fun _ => stable_pure _)
theorem stable_store (lim : Int) (out : List Int) : Stable (storeM lim out) := stable_bind stable_align fun _ => stable_bind (stable_take _) fun n => stable_bind (stable_take _) fun t => stable_if (stable_fail _) (stable_if (stable_fail _) (stable_bind (stable_bytes _) fun b => stable_pure _))
theorem stable_block (lim kind : Int) (out : List Int) : Stable (blockM lim kind out) := stable_if (stable_store _ _) (stable_if (stable_coded _ _ _ _ _) (stable_if (stable_bind stable_tables fun x => stable_coded _ _ _ _ _) (stable_fail _)))
theorem stable_infl (lim : Int) : ∀ f out, Stable (inflM lim f out) := by
  intro f
  induction f with
  | zero => intro out; exact stable_fail _
  | succ f ih => intro out; exact stable_bind (stable_take _) fun last => stable_bind (stable_take _) fun kind => stable_bind (stable_block _ _ _) fun o => stable_if (stable_pure _) (ih _)
/-! ### a greater limit -/
theorem mono_copied (lim s : Int) (d out : List Int) : Mono (copiedM lim s d out) (copiedM (lim + 1) s d out) := mono_bind (Mono.refl _) fun n => mono_bind (Mono.refl _) fun b => mono_if (Mono.refl _) (by
  by_cases h : lim < out.length + n
  · rw [if_pos h]; exact mono_fail8 _
  · rw [if_neg h, if_neg (by omega)]; exact Mono.refl _)
theorem mono_coded (lim : Int) (l d : List Int) : ∀ f out, Mono (codedM lim l d f out) (codedM (lim + 1) l d f out) := by
  intro f
  induction f with
  | zero => intro out; exact Mono.refl _
  | succ f ih =>
    intro out
    refine mono_bind (Mono.refl _) fun s => mono_if (Mono.refl _) (mono_if ?_ (mono_bind (mono_copied _ _ _ _) fun o => ih _))
    by_cases h : lim ≤ out.length
    · rw [if_pos h]; exact mono_fail8 _
    · rw [if_neg h, if_neg (by omega)]; exact ih _
theorem mono_store (lim : Int) (out : List Int) : Mono (storeM lim out) (storeM (lim + 1) out) := mono_bind (Mono.refl _) fun _ => mono_bind (Mono.refl _) fun n => mono_bind (Mono.refl _) fun t => mono_if (Mono.refl _) (by
  by_cases h : lim - out.length < n
  · rw [if_pos h]; exact mono_fail8 _
  · rw [if_neg h, if_neg (by omega)]; exact Mono.refl _)
theorem mono_block (lim kind : Int) (out : List Int) : Mono (blockM lim kind out) (blockM (lim + 1) kind out) := mono_if (mono_store _ _) (mono_if (mono_coded _ _ _ _ _) (mono_if (mono_bind (Mono.refl _) fun x => mono_coded _ _ _ _ _) (Mono.refl _)))
theorem mono_infl (lim : Int) : ∀ f out, Mono (inflM lim f out) (inflM (lim + 1) f out) := by
  intro f
  induction f with
  | zero => intro out; exact Mono.refl _
  | succ f ih => intro out; exact mono_bind (Mono.refl _) fun last => mono_bind (Mono.refl _) fun kind => mono_bind (mono_block _ _ _) fun o => mono_if (Mono.refl _) (ih _)
end Uf
end Go.Proofs.Ytcjdeinmmokdgaa
