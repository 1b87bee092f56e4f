/- inflate, as a plain function of bits: readers, and what is true of all of them. -/
import Derived.Test.YtcjdeinmmokdgaaInfT
namespace Go.Proofs.Ytcjdeinmmokdgaa
set_option linter.unusedSimpArgs false
set_option linter.unusedVariables false
open Go.RowKit
namespace Uf
/-- a reader of bits: from a place on, a value and the place behind, or an error -/
def M (α : Type) : Type := List Int → Nat → Except Int (α × Nat)
def pureM {α : Type} (a : α) : M α := fun _ p => .ok (a, p)
def failM {α : Type} (k : Int) : M α := fun _ _ => .error k
def bindM {α β : Type} (m : M α) (f : α → M β) : M β := fun bs p => match m bs p with
  | .ok (a, q) => f a bs q
  | .error k => .error k
def takeM (n : Nat) : M Int := fun bs p => if p + n ≤ 8 * bs.length then .ok (Hf.takeVal bs p n, p + n) else .error 2
def nextM (l : List Int) : M Int := fun bs p => if (Hf.next l bs p).2.1 = 0 then .ok ((Hf.next l bs p).1, p + (Hf.next l bs p).2.2) else .error (Hf.next l bs p).2.1
def alignM : M Unit := fun _ p => .ok ((), (p + 7) / 8 * 8)
def bytesM (n : Nat) : M (List Int) := fun bs p => if p + 8 * n ≤ 8 * bs.length then .ok ((bs.drop (p / 8)).take n, p + 8 * n) else .error 2
/-- two rows of bytes have the same bits up to a place -/
def Agree (bs bs' : List Int) (q : Nat) : Prop := ∀ i, 8 * i < q → bs[i]? = bs'[i]?
theorem Agree.mono {bs bs' : List Int} {p q : Nat} (h : Agree bs bs' q) (hpq : p ≤ q) : Agree bs bs' p := fun i hi => h i (by omega)
theorem Agree.len {bs bs' : List Int} {q : Nat} (h : Agree bs bs' q) (hq : q ≤ 8 * bs.length) : q ≤ 8 * bs'.length := by
  rcases Nat.lt_or_ge (8 * bs'.length) q with h1 | h1
  · have h2 := h bs'.length h1
    rw [List.getElem?_eq_none (Nat.le_refl _), List.getElem?_eq_getElem (by omega)] at h2
    cases h2
  · exact h1
theorem Agree.bit {bs bs' : List Int} {q : Nat} (h : Agree bs bs' q) (i : Nat) (hi : i < q) : Hf.bitAt bs i = Hf.bitAt bs' i := by
  unfold Hf.bitAt
  simp only [List.getD]
  rw [h (i / 8) (by omega)]
theorem Agree.take {bs bs' : List Int} {p n : Nat} (h : Agree bs bs' (p + n)) : Hf.takeVal bs p n = Hf.takeVal bs' p n := by
  induction n with
  | zero => rfl
  | succ n ih => simp only [Hf.takeVal]; rw [ih (h.mono (by omega)), h.bit (p + n) (by omega)]
theorem Agree.val {bs bs' : List Int} {p k : Nat} (h : Agree bs bs' (p + k)) : Hf.val bs p k = Hf.val bs' p k := by
  induction k with
  | zero => rfl
  | succ k ih => simp only [Hf.val]; rw [ih (h.mono (by omega)), h.bit (p + k) (by omega)]
/-- what is read hangs on the bits up to the place behind alone -/
def Stable {α : Type} (m : M α) : Prop := ∀ bs p a q, p ≤ 8 * bs.length → m bs p = .ok (a, q) → p ≤ q ∧ q ≤ 8 * bs.length ∧ ∀ bs', Agree bs bs' q → m bs' p = .ok (a, q)
/-- an error is one of three -/
def ErrIn {α : Type} (m : M α) : Prop := ∀ bs p k, m bs p = .error k → k = 2 ∨ k = 4 ∨ k = 8
/-- with a greater limit the same comes of it, or it isn't too long any more -/
def Mono {α : Type} (m m' : M α) : Prop := ∀ bs p, (∀ a, m bs p = .ok a → m' bs p = .ok a) ∧ (∀ k, k ≠ 8 → m bs p = .error k → m' bs p = .error k)
theorem Mono.refl {α : Type} (m : M α) : Mono m m := fun _ _ => ⟨fun _ h => h, fun _ _ h => h⟩
theorem stable_pure {α : Type} (a : α) : Stable (pureM a) := fun bs p b q hp h => by
  injection h with h
  injection h with h1 h2
  subst h1 h2
  exact ⟨Nat.le_refl _, hp, fun _ _ => rfl⟩
theorem stable_fail {α : Type} (k : Int) : Stable (failM k : M α) := fun bs p b q hp h => by cases h
theorem stable_bind {α β : Type} {m : M α} {f : α → M β} (hm : Stable m) (hf : ∀ a, Stable (f a)) : Stable (bindM m f) := fun bs p b q hp h => by
  unfold bindM at h
  cases hmp : m bs p with
  | error k => rw [hmp] at h; cases h
  | ok r =>
    obtain ⟨a, p1⟩ := r
    rw [hmp] at h
    obtain ⟨h1, h2, h3⟩ := hm bs p a p1 hp hmp
    obtain ⟨h4, h5, h6⟩ := hf a bs p1 b q h2 h
    refine ⟨by omega, h5, fun bs' hA => ?_⟩
    unfold bindM
    rw [h3 bs' (hA.mono h4)]
    exact h6 bs' hA
theorem stable_take (n : Nat) : Stable (takeM n) := fun bs p b q hp h => by
  unfold takeM at h
  by_cases h1 : p + n ≤ 8 * bs.length
  · rw [if_pos h1] at h
    injection h with h
    injection h with h2 h3
    subst h3
    refine ⟨by omega, h1, fun bs' hA => ?_⟩
    unfold takeM
    rw [if_pos (hA.len h1), ← hA.take, h2]
  · rw [if_neg h1] at h; cases h
theorem stable_align : Stable alignM := fun bs p b q hp h => by
  injection h with h
  injection h with h1 h2
  subst h2
  exact ⟨by omega, by omega, fun _ _ => rfl⟩
theorem agree_slice {bs bs' : List Int} {j n : Nat} (h : Agree bs bs' (8 * (j + n))) (hl : j + n ≤ bs.length) (hl' : j + n ≤ bs'.length) : (bs.drop j).take n = (bs'.drop j).take n := by
  apply List.ext_getElem?
  intro i
  rw [List.getElem?_take, List.getElem?_take]
  split
  · rw [List.getElem?_drop, List.getElem?_drop]
    exact h (j + i) (by omega)
  · rfl
theorem stable_bytes (n : Nat) : Stable (bytesM n) := fun bs p b q hp h => by
  unfold bytesM at h
  by_cases h1 : p + 8 * n ≤ 8 * bs.length
  · rw [if_pos h1] at h
    injection h with h
    injection h with h2 h3
    subst h3
    refine ⟨by omega, h1, fun bs' hA => ?_⟩
    unfold bytesM
    have hl := hA.len h1
    rw [if_pos hl, ← h2]
    congr 2
    exact (agree_slice (hA.mono (by omega)) (by omega) (by omega)).symm
  · rw [if_neg h1] at h; cases h
/-- a symbol's search, its table's numbers as letters -/
def nx (A : Nat) (len : Nat → Nat) (st cn get : Nat → Int) (bs : List Int) (p : Nat) : Nat → Nat → Int × Int × Nat
  | 0, k => (0, 4, k)
  | f + 1, k => if A ≤ len k then (0, 4, k) else if 8 * bs.length ≤ p + k then (0, 2, k) else if Hf.val bs p (k + 1) - st (k + 1) < cn (k + 1) then (get (len k + (Hf.val bs p (k + 1) - st (k + 1)).toNat), 0, k + 1) else nx A len st cn get bs p f (k + 1)
theorem nx_eq (l bs : List Int) (p : Nat) (f k : Nat) : Hf.nextGo l bs p f k = nx (Hf.symsTo l 15).length (fun k => (Hf.symsTo l k).length) (fun i => Hf.start l i) (fun i => Hf.cnt l i) (fun i => (Hf.symsTo l 15).getD i 0) bs p f k := by
  induction f generalizing k with
  | zero => simp only [Hf.nextGo, nx]
  | succ f ih => simp only [Hf.nextGo, nx, ih]
theorem next_eq (l : List Int) : ∃ (A : Nat) (len : Nat → Nat) (st cn get : Nat → Int) (F : Nat), ∀ bs p, Hf.next l bs p = nx A len st cn get bs p F 0 := ⟨_, _, _, _, _, 15, fun bs p => by rw [Hf.next, nx_eq]⟩
theorem nx_ok {A : Nat} {len : Nat → Nat} {st cn get : Nat → Int} (bs : List Int) (p : Nat) : ∀ f k, (nx A len st cn get bs p f k).2.1 = 0 → k < (nx A len st cn get bs p f k).2.2 ∧ p + (nx A len st cn get bs p f k).2.2 ≤ 8 * bs.length ∧ ∀ bs', Agree bs bs' (p + (nx A len st cn get bs p f k).2.2) → nx A len st cn get bs' p f k = nx A len st cn get bs p f k := by
  intro f
  induction f with
  | zero => intro k h; simp [nx] at h
  | succ f ih =>
    intro k h
    rw [nx] at h ⊢
    by_cases c1 : A ≤ len k
    · rw [if_pos c1] at h; simp at h
    rw [if_neg c1] at h ⊢
    by_cases c2 : 8 * bs.length ≤ p + k
    · rw [if_pos c2] at h; simp at h
    rw [if_neg c2] at h ⊢
    by_cases c3 : Hf.val bs p (k + 1) - st (k + 1) < cn (k + 1)
    · rw [if_pos c3] at h ⊢
      refine ⟨by simp, by simp; omega, fun bs' hA => ?_⟩
      have hl := hA.len (by simp; omega)
      simp only at hA hl
      rw [nx, if_neg c1, if_neg (by omega), ← hA.val, if_pos c3]
    · rw [if_neg c3] at h ⊢
      obtain ⟨h1, h2, h3⟩ := ih (k + 1) h
      refine ⟨by omega, h2, fun bs' hA => ?_⟩
      have hl := hA.len h2
      rw [nx, if_neg c1, if_neg (by omega), ← (hA.mono (show p + (k + 1) ≤ _ by omega)).val, if_neg c3]
      exact h3 bs' hA
theorem nx_err {A : Nat} {len : Nat → Nat} {st cn get : Nat → Int} (bs : List Int) (p : Nat) : ∀ f k, (nx A len st cn get bs p f k).2.1 ≠ 0 → (nx A len st cn get bs p f k).2.1 = 2 ∨ (nx A len st cn get bs p f k).2.1 = 4 := by
  intro f
  induction f with
  | zero => intro k _; exact .inr rfl
  | succ f ih =>
    intro k h
    rw [nx] at h ⊢
    by_cases c1 : A ≤ len k
    · rw [if_pos c1]; exact .inr rfl
    rw [if_neg c1] at h ⊢
    by_cases c2 : 8 * bs.length ≤ p + k
    · rw [if_pos c2]; exact .inl rfl
    rw [if_neg c2] at h ⊢
    by_cases c3 : Hf.val bs p (k + 1) - st (k + 1) < cn (k + 1)
    · rw [if_pos c3] at h; simp at h
    · rw [if_neg c3] at h ⊢
      exact ih (k + 1) h
theorem stable_next (l : List Int) : Stable (nextM l) := fun bs p b q hp h => by
  obtain ⟨A, len, st, cn, get, F, he⟩ := next_eq l
  unfold nextM at h ⊢
  simp only [he] at h ⊢
  by_cases h1 : (nx A len st cn get bs p F 0).2.1 = 0
  · rw [if_pos h1] at h
    injection h with h
    injection h with h2 h3
    obtain ⟨a1, a2, a3⟩ := nx_ok bs p F 0 h1
    subst h3
    refine ⟨by omega, a2, fun bs' hA => ?_⟩
    rw [a3 bs' hA, if_pos h1, h2]
  · rw [if_neg h1] at h; cases h
theorem err_pure {α : Type} (a : α) : ErrIn (pureM a) := fun bs p k h => by cases h
theorem err_fail {α : Type} (k : Int) (hk : k = 2 ∨ k = 4 ∨ k = 8) : ErrIn (failM k : M α) := fun bs p j h => by
  injection h with h
  subst h
  exact hk
theorem err_bind {α β : Type} {m : M α} {f : α → M β} (hm : ErrIn m) (hf : ∀ a, ErrIn (f a)) : ErrIn (bindM m f) := fun bs p k h => by
  unfold bindM at h
  cases hmp : m bs p with
  | error j =>
    rw [hmp] at h
    injection h with h
    subst h
    exact hm bs p j hmp
  | ok r =>
    obtain ⟨a, p1⟩ := r
    rw [hmp] at h
    exact hf a bs p1 k h
theorem err_take (n : Nat) : ErrIn (takeM n) := fun bs p k h => by
  unfold takeM at h
  split at h
  · cases h
  · injection h with h; exact .inl h.symm
theorem err_align : ErrIn alignM := fun bs p k h => by cases h
theorem err_bytes (n : Nat) : ErrIn (bytesM n) := fun bs p k h => by
  unfold bytesM at h
  split at h
  · cases h
  · injection h with h; exact .inl h.symm
theorem err_next (l : List Int) : ErrIn (nextM l) := fun bs p k h => by
  obtain ⟨A, len, st, cn, get, F, he⟩ := next_eq l
  unfold nextM at h
  simp only [he] at h
  by_cases h1 : (nx A len st cn get bs p F 0).2.1 = 0
  · rw [if_pos h1] at h; cases h
  · rw [if_neg h1] at h
    injection h with h
    have := nx_err bs p F 0 h1
    omega
theorem mono_bind {α β : Type} {m m' : M α} {f f' : α → M β} (hm : Mono m m') (hf : ∀ a, Mono (f a) (f' a)) : Mono (bindM m f) (bindM m' f') := fun bs p => by
  unfold bindM
  cases hmp : m bs p with
  | error j =>
    refine ⟨fun a h => (by cases h), fun k hk h => ?_⟩
    injection h with h
    subst h
    rw [(hm bs p).2 j hk hmp]
  | ok r =>
    rw [(hm bs p).1 r hmp]
    obtain ⟨a, p1⟩ := r
    exact hf a bs p1
theorem mono_fail8 {α : Type} (m' : M α) : Mono (failM 8) m' := fun bs p => ⟨fun a h => (by cases h), fun k hk h => by
  injection h with h
  exact absurd h.symm hk⟩
end Uf
end Go.Proofs.Ytcjdeinmmokdgaa
