/- inflate, as a plain function of bits: its errors, its length; the plain law of InflateLimits. -/
import Derived.Test.YtcjdeinmmokdgaaLimB
namespace Go.Proofs.Ytcjdeinmmokdgaa
set_option linter.unusedSimpArgs false
set_option linter.unusedVariables false
open Go.RowKit
namespace Uf
/-- what is read is so -/
def Post {α : Type} (m : M α) (Q : α → Prop) : Prop := ∀ bs p a q, m bs p = .ok (a, q) → Q a
theorem post_pure {α : Type} {a : α} {Q : α → Prop} (h : Q a) : Post (pureM a) Q := fun bs p b q hh => by
  injection hh with hh
  injection hh with h1 h2
  subst h1
  exact h
theorem post_fail {α : Type} {k : Int} {Q : α → Prop} : Post (failM k : M α) Q := fun bs p b q hh => by cases hh
theorem post_bind {α β : Type} {m : M α} {f : α → M β} {Q : α → Prop} {R : β → Prop} (hm : Post m Q) (hf : ∀ a, Q a → Post (f a) R) : Post (bindM m f) R := fun bs p b q h => by
  unfold bindM at h
  cases hmp : m bs p with
  | error k => rw [hmp] at h; cases h
  | ok r =>
    obtain ⟨a, p1⟩ := r
    rw [hmp] at h
    exact hf a (hm bs p a p1 hmp) bs p1 b q h
theorem post_any {α : Type} (m : M α) : Post m (fun _ => True) := fun _ _ _ _ _ => trivial
theorem post_if {α : Type} {c : Prop} [Decidable c] {m m' : M α} {Q : α → Prop} (h : c → Post m Q) (h' : ¬ c → Post m' Q) : Post (if c then m else m') Q := by
  by_cases hc : c
  · rw [if_pos hc]; exact h hc
  · rw [if_neg hc]; exact h' hc
theorem post_take (n : Nat) : Post (takeM n) (fun v => 0 ≤ v ∧ v < 2 ^ n) := fun bs p b q h => by
  unfold takeM at h
  split at h
  · injection h with h
    injection h with h1 h2
    subst h1
    exact Hf.takeVal_range bs p n
  · cases h
theorem err_bind' {α β : Type} {m : M α} {f : α → M β} {Q : α → Prop} (hm : ErrIn m) (hq : Post m Q) (hf : ∀ a, Q a → ErrIn (f a)) : ErrIn (bindM m f) := fun bs p k h => by
  unfold bindM at h
  cases hmp : m bs p with
  | error j =>
    rw [hmp] at h
    injection h with h
    subst h
    exact hm bs p j hmp
  | ok r =>
    obtain ⟨a, p1⟩ := r
    rw [hmp] at h
    exact hf a (hq bs p a p1 hmp) bs p1 k h
theorem err_if' {α : Type} {c : Prop} [Decidable c] {m m' : M α} (h : c → ErrIn m) (h' : ¬ c → ErrIn m') : ErrIn (if c then m else m') := by
  by_cases hc : c
  · rw [if_pos hc]; exact h hc
  · rw [if_neg hc]; exact h' hc
theorem err_four (l : List Int) (h1 : l.length ≤ 320) (h2 : Hf.inRange l) : Hf.err l = 0 ∨ Hf.err l = 4 := by
  unfold Hf.err
  rw [if_neg (by omega), if_neg (not_not_intro h2)]
  split
  · exact .inr rfl
  · split
    · exact .inr rfl
    · exact .inl rfl
theorem err_new (l : List Int) (h1 : l.length ≤ 320) (h2 : Hf.inRange l) : ErrIn (newM l) := by
  unfold newM
  refine err_if' (fun _ => err_pure _) fun h => err_fail _ ?_
  rcases err_four l h1 h2 with h3 | h3
  · exact absurd h3 h
  · exact .inr (.inl h3)
theorem symsTo_nonneg (l : List Int) : ∀ k, ∀ x ∈ Hf.symsTo l k, 0 ≤ x := by
  intro k
  induction k with
  | zero => intro x hx; simp [Hf.symsTo] at hx
  | succ k ih =>
    intro x hx
    simp only [Hf.symsTo, List.mem_append] at hx
    rcases hx with hx | hx
    · exact ih x hx
    · simp only [Hf.symsAt, List.mem_map] at hx
      obtain ⟨s, _, rfl⟩ := hx
      exact Int.natCast_nonneg s
theorem nx_nonneg {A : Nat} {len : Nat → Nat} {st cn get : Nat → Int} (hg : ∀ i, 0 ≤ get i) (bs : List Int) (p : Nat) : ∀ f k, 0 ≤ (nx A len st cn get bs p f k).1 := by
  intro f
  induction f with
  | zero => intro k; exact Int.le_refl _
  | succ f ih =>
    intro k
    rw [nx]
    by_cases c1 : A ≤ len k
    · rw [if_pos c1]; exact Int.le_refl _
    rw [if_neg c1]
    by_cases c2 : 8 * bs.length ≤ p + k
    · rw [if_pos c2]; exact Int.le_refl _
    rw [if_neg c2]
    by_cases c3 : Hf.val bs p (k + 1) - st (k + 1) < cn (k + 1)
    · rw [if_pos c3]; exact hg _
    · rw [if_neg c3]; exact ih _
theorem next_nonneg (l bs : List Int) (p : Nat) : 0 ≤ (Hf.next l bs p).1 := by
  rw [Hf.next, nx_eq]
  refine nx_nonneg (fun i => ?_) bs p _ _
  have hS := symsTo_nonneg l 15
  generalize Hf.symsTo l 15 = S at hS ⊢
  rcases Nat.lt_or_ge i S.length with h | h
  · have e : S.getD i 0 = S[i] := by simp [List.getD, h]
    rw [e]; exact hS _ (List.getElem_mem h)
  · have e : S.getD i 0 = 0 := by simp [List.getD, List.getElem?_eq_none h]
    rw [e]; exact Int.le_refl _
theorem post_next (l : List Int) : Post (nextM l) (fun s => 0 ≤ s) := fun bs p b q h => by
  unfold nextM at h
  have := next_nonneg l bs p
  generalize Hf.next l bs p = R at h this
  split at h
  · injection h with h
    injection h with h1 h2
    subst h1
    exact this
  · cases h
/-- a row of lengths, so many at most -/
def Lens (n : Nat) (l : List Int) : Prop := l.length ≤ n ∧ Hf.inRange l
theorem lens_app {n m : Nat} {l r : List Int} (h : Hf.inRange l) (hr : Hf.inRange r) (hl : l.length + r.length ≤ n) : Lens n (l ++ r) := ⟨by rw [List.length_append]; exact hl, fun x hx => by
  rcases List.mem_append.1 hx with hx | hx
  · exact h x hx
  · exact hr x hx⟩
theorem range_rep (n : Nat) (v : Int) (h : 0 ≤ v ∧ v ≤ 15) : Hf.inRange (List.replicate n v) := fun x hx => by
  rw [(List.mem_replicate.1 hx).2]; exact h
theorem range_last {a : List Int} (h : Hf.inRange a) : 0 ≤ a.getD (a.length - 1) 0 ∧ a.getD (a.length - 1) 0 ≤ 15 := by
  rcases Nat.lt_or_ge (a.length - 1) a.length with h1 | h1
  · have e : a.getD (a.length - 1) 0 = a[a.length - 1] := by simp [List.getD, h1]
    rw [e]; exact h _ (List.getElem_mem h1)
  · have e : a.getD (a.length - 1) 0 = 0 := by simp [List.getD, List.getElem?_eq_none h1]
    rw [e]; exact ⟨Int.le_refl _, by omega⟩
theorem lengths_both (t : List Int) (many : Nat) : ∀ f a, Lens many a → Post (lengthsM t many f a) (Lens many) ∧ ErrIn (lengthsM t many f a) := by
  intro f
  induction f with
  | zero => intro a h; exact ⟨post_fail, err_fail _ (.inr (.inl rfl))⟩
  | succ f ih =>
    intro a ⟨h1, h2⟩
    have step : ∀ (b : Nat) (v : Int) (x : Nat), 0 ≤ v ∧ v ≤ 15 → (x = 3 ∨ x = 11) → Post (bindM (takeM b) fun n => if (many : Int) - a.length < n + x then failM 4 else lengthsM t many f (a ++ List.replicate (n + x).toNat v)) (Lens many) ∧ ErrIn (bindM (takeM b) fun n => if (many : Int) - a.length < n + x then failM 4 else lengthsM t many f (a ++ List.replicate (n + x).toNat v)) := by
      intro b v x hv hx
      have hin : ∀ n : Int, 0 ≤ n ∧ n < 2 ^ b → ¬ ((many : Int) - a.length < n + x) → Lens many (a ++ List.replicate (n + x).toNat v) := fun n hn hc => lens_app (n := many) (m := 0) h2 (range_rep _ _ hv) (by rw [List.length_replicate]; omega)
      exact ⟨post_bind (post_take b) fun n hn => post_if (fun _ => post_fail) fun hc => (ih _ (hin n hn hc)).1,
        err_bind' (err_take b) (post_take b) fun n hn => err_if' (fun _ => err_fail _ (.inr (.inl rfl))) fun hc => (ih _ (hin n hn hc)).2⟩
    have s1 : ∀ s : Int, 0 ≤ s → s < 16 → ¬ many ≤ a.length → Lens many (a ++ [s]) := fun s h0 h16 hc => lens_app (n := many) (m := 0) h2 (fun x hx => by rw [List.mem_singleton.1 hx]; omega) (by simp; omega)
    refine ⟨?_, ?_⟩
    · rw [lengthsM]
      refine post_if (fun _ => post_pure ⟨h1, h2⟩) fun hc => post_bind (post_next t) fun s hs => post_if (fun h16 => (ih _ (s1 s hs h16 hc)).1) fun _ => post_if (fun _ => post_if (fun _ => post_fail) fun _ => (step 2 _ 3 (range_last h2) (.inl rfl)).1) fun _ => post_if (fun _ => (step 3 0 3 ⟨Int.le_refl _, by omega⟩ (.inl rfl)).1) fun _ => (step 7 0 11 ⟨Int.le_refl _, by omega⟩ (.inr rfl)).1
    · rw [lengthsM]
      refine err_if' (fun _ => err_pure _) fun hc => err_bind' (err_next t) (post_next t) fun s hs => err_if' (fun h16 => (ih _ (s1 s hs h16 hc)).2) fun _ => err_if' (fun _ => err_if' (fun _ => err_fail _ (.inr (.inl rfl))) fun _ => (step 2 _ 3 (range_last h2) (.inl rfl)).2) fun _ => err_if' (fun _ => (step 3 0 3 ⟨Int.le_refl _, by omega⟩ (.inl rfl)).2) fun _ => (step 7 0 11 ⟨Int.le_refl _, by omega⟩ (.inr rfl)).2
theorem lens_set {n : Nat} {l : List Int} (h : Lens n l) (i : Nat) (v : Int) (hv : 0 ≤ v ∧ v ≤ 15) : Lens n (l.set i v) := ⟨by rw [List.length_set]; exact h.1, fun x hx => by
  rcases List.mem_or_eq_of_mem_set hx with hx | rfl
  · exact h.2 x hx
  · exact hv⟩
theorem head_both : ∀ k i l, Lens 19 l → Post (headM k i l) (Lens 19) ∧ ErrIn (headM k i l) := by
  intro k
  induction k with
  | zero => intro i l h; exact ⟨post_pure h, err_pure _⟩
  | succ k ih =>
    intro i l h
    have hs : ∀ v : Int, 0 ≤ v ∧ v < 2 ^ 3 → Lens 19 (l.set (ord i) v) := fun v hv => by
      have h8 : (2 : Int) ^ 3 = 8 := by decide
      exact lens_set h _ _ ⟨hv.1, by omega⟩
    exact ⟨post_bind (post_take 3) fun v hv => (ih _ _ (hs v hv)).1, err_bind' (err_take 3) (post_take 3) fun v hv => (ih _ _ (hs v hv)).2⟩
/-- what is told ahead -/
def Ahd (x : Nat × Nat × List Int) : Prop := x.1 + x.2.1 ≤ 320
theorem ahead_both : Post aheadM Ahd ∧ ErrIn aheadM := by
  have h19 : Lens 19 (List.replicate 19 (0 : Int)) := ⟨by simp, range_rep _ _ ⟨Int.le_refl _, by omega⟩⟩
  refine ⟨?_, ?_⟩
  · exact post_bind (post_take 5) fun a ha => post_bind (post_take 5) fun b hb => post_bind (post_take 4) fun c hc => post_if (fun _ => post_fail) fun hn => post_bind (post_any _) fun l _ => post_bind (post_any _) fun _ _ => post_pure (by show (a + 257).toNat + (b + 1).toNat ≤ 320; omega)
  · exact err_bind (err_take 5) fun a => err_bind (err_take 5) fun b => err_bind (err_take 4) fun c => err_if (err_fail _ (.inr (.inl rfl))) (err_bind' (head_both _ _ _ h19).2 (head_both _ _ _ h19).1 fun l hl => err_bind (err_new l (by have := hl.1; omega) hl.2) fun _ => err_pure _)
theorem err_tables : ErrIn tablesM := by
  refine err_bind' ahead_both.2 ahead_both.1 fun x hx => ?_
  have h0 : Lens (x.1 + x.2.1) ([] : List Int) := ⟨by simp, fun y hy => by cases hy⟩
  refine err_bind' (lengths_both _ _ _ _ h0).2 (lengths_both _ _ _ _ h0).1 fun l hl => err_if (err_fail _ (.inr (.inl rfl))) (err_bind (err_new _ ?_ fun y hy => hl.2 y (List.mem_of_mem_take hy)) fun _ => err_bind (err_new _ ?_ fun y hy => hl.2 y (List.mem_of_mem_drop hy)) fun _ => err_pure _)
  · have := hl.1; have : x.1 + x.2.1 ≤ 320 := hx; rw [List.length_take]; omega
  · have := hl.1; have : x.1 + x.2.1 ≤ 320 := hx; rw [List.length_drop]; omega
theorem err_long (s : Int) : ErrIn (longM s) := err_if (err_pure _) (err_if (err_pure _) (err_if (err_fail _ (.inr (.inl rfl))) (err_bind (err_take _) fun v => err_pure _)))
theorem err_far (d : List Int) : ErrIn (farM d) := err_bind (err_next d) fun s => err_if (err_pure _) (err_if (err_fail _ (.inr (.inl rfl))) (err_bind (err_take _) fun v => err_pure _))
theorem err_copied (lim s : Int) (d out : List Int) : ErrIn (copiedM lim s d out) := err_bind (err_long s) fun n => err_bind (err_far d) fun b => err_if (err_fail _ (.inr (.inl rfl))) (err_if (err_fail _ (.inr (.inr rfl))) (err_pure _))
theorem err_coded (lim : Int) (l d : List Int) : ∀ f out, ErrIn (codedM lim l d f out) := by
  intro f
  induction f with
  | zero => intro out; exact err_fail _ (.inr (.inl rfl))
  | succ f ih => intro out; exact err_bind (err_next l) fun s => err_if (err_pure _) (err_if (err_if (err_fail _ (.inr (.inr rfl))) (ih _)) (err_bind (err_copied _ _ _ _) fun o => ih _))
theorem err_store (lim : Int) (out : List Int) : ErrIn (storeM lim out) := err_bind err_align fun _ => err_bind (err_take _) fun n => err_bind (err_take _) fun t => err_if (err_fail _ (.inr (.inl rfl))) (err_if (err_fail _ (.inr (.inr rfl))) (err_bind (err_bytes _) fun b => err_pure _))
theorem err_block (lim kind : Int) (out : List Int) : ErrIn (blockM lim kind out) := err_if (err_store _ _) (err_if (err_coded _ _ _ _ _) (err_if (err_bind err_tables fun x => err_coded _ _ _ _ _) (err_fail _ (.inr (.inl rfl)))))
theorem err_infl (lim : Int) : ∀ f out, ErrIn (inflM lim f out) := by
  intro f
  induction f with
  | zero => intro out; exact err_fail _ (.inr (.inl rfl))
  | succ f ih => intro out; exact err_bind (err_take _) fun last => err_bind (err_take _) fun kind => err_bind (err_block _ _ _) fun o => err_if (err_pure _) (ih _)
/-! ### no more than the limit -/
def Fit (lim : Int) (o : List Int) : Prop := (o.length : Int) ≤ lim
theorem post_bytes (n : Nat) : Post (bytesM n) (fun b => b.length ≤ n) := fun bs p b q h => by
  unfold bytesM at h
  split at h
  · injection h with h
    injection h with h1 h2
    subst h1
    rw [List.length_take]
    omega
  · cases h
theorem fit_copied (lim s : Int) (d out : List Int) (h : Fit lim out) : Post (copiedM lim s d out) (Fit lim) := post_bind (post_any _) fun n _ => post_bind (post_any _) fun b _ => post_if (fun _ => post_fail) fun _ => post_if (fun _ => post_fail) fun hc => post_pure (by
  have : (out.length : Int) ≤ lim := h
  show ((copyL _ _ _).length : Int) ≤ lim
  rw [copyL_len]
  omega)
theorem fit_coded (lim : Int) (l d : List Int) : ∀ f out, Fit lim out → Post (codedM lim l d f out) (Fit lim) := by
  intro f
  induction f with
  | zero => intro out _; exact post_fail
  | succ f ih => intro out h; exact post_bind (post_any _) fun s _ => post_if (fun _ => post_pure h) fun _ => post_if (fun _ => post_if (fun _ => post_fail) fun hc => ih _ (by show ((out ++ [s]).length : Int) ≤ lim; simp; omega)) fun _ => post_bind (fit_copied _ _ _ _ h) fun o ho => ih o ho
theorem fit_store (lim : Int) (out : List Int) (h : Fit lim out) : Post (storeM lim out) (Fit lim) := post_bind (post_any _) fun _ _ => post_bind (post_take 16) fun n hn => post_bind (post_any _) fun t _ => post_if (fun _ => post_fail) fun _ => post_if (fun _ => post_fail) fun hc => post_bind (post_bytes _) fun b hb => post_pure (by
  show ((out ++ b).length : Int) ≤ lim
  rw [List.length_append]
  omega)
theorem fit_block (lim kind : Int) (out : List Int) (h : Fit lim out) : Post (blockM lim kind out) (Fit lim) := post_if (fun _ => fit_store _ _ h) fun _ => post_if (fun _ => fit_coded _ _ _ _ _ h) fun _ => post_if (fun _ => post_bind (post_any _) fun x _ => fit_coded _ _ _ _ _ h) fun _ => post_fail
theorem fit_infl (lim : Int) : ∀ f out, Fit lim out → Post (inflM lim f out) (Fit lim) := by
  intro f
  induction f with
  | zero => intro out _; exact post_fail
  | succ f ih => intro out h; exact post_bind (post_any _) fun _ _ => post_bind (post_any _) fun k _ => post_bind (fit_block _ _ _ h) fun o ho => post_if (fun _ => post_pure ho) fun _ => ih o ho
/-- what bytes are unpacked to -/
def infl (bs : List Int) (lim : Int) : Except Int (List Int × Nat) := inflM lim fuel [] bs 0
theorem infl_ok {bs : List Int} {lim : Int} {o : List Int} {q : Nat} (hl : 0 ≤ lim) (h : infl bs lim = .ok (o, q)) :
    (o.length : Int) ≤ lim ∧ q ≤ 8 * bs.length ∧ infl bs (lim + 1) = .ok (o, q) ∧ ∀ more, infl (bs.take ((q + 7) / 8) ++ more) lim = .ok (o, q) := by
  obtain ⟨-, h2, h3⟩ := stable_infl lim fuel [] bs 0 o q (by omega) h
  refine ⟨fit_infl lim fuel [] (by show ((0 : Nat) : Int) ≤ lim; omega) bs 0 o q h, h2, (mono_infl lim fuel [] bs 0).1 _ h, fun more => h3 _ fun i hi => ?_⟩
  rw [List.getElem?_append_left (by rw [List.length_take]; omega), List.getElem?_take, if_pos (by omega)]
theorem infl_err {bs : List Int} {lim : Int} {k : Int} (h : infl bs lim = .error k) : (k = 2 ∨ k = 4 ∨ k = 8) ∧ (k ≠ 8 → infl bs (lim + 1) = .error k) :=
  ⟨err_infl lim fuel [] bs 0 k h, fun hk => (mono_infl lim fuel [] bs 0).2 k hk h⟩
end Uf
end Go.Proofs.Ytcjdeinmmokdgaa
