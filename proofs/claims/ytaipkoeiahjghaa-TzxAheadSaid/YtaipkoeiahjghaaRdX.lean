/- tzx.Parse as plain data; what TzxAhead says of it. -/
import Derived.Test.YtaipkoeiahjghaaRdW
import Derived.Test.YtaipkoeiahjghaaRdV
namespace Go.Proofs.Ytaipkoeiahjghaa
set_option linter.unusedSimpArgs false
set_option linter.unusedVariables false
namespace Rd
def sign8 : List Int := [90, 88, 84, 97, 112, 101, 33, 26]
/-- blocks, as long as bytes are left; where each begins -/
def blocksM : Nat → Nat → RM (List TB × List Int)
  | 0, _ => ret ([], [])
  | f + 1, cnt => fun L s => if left L.length s = 0 then (([], []), s) else if cnt = 4096 then (([], []), fail s 8 s.k) else
    (((blockM L s).1 :: (blocksM f (cnt + 1) L (blockM L s).2).1.1, (s.k : Int) :: (blocksM f (cnt + 1) L (blockM L s).2).1.2), (blocksM f (cnt + 1) L (blockM L s).2).2)
/-- what comes of bytes -/
inductive PR where
  | fault (E p : Int)
  | tape (maj min : Int) (l : List TB)
/-- of blocks that were read without a fault -/
def soundD (maj min : Int) (l : List TB) (starts : List Int) : PR :=
  if (Tz.firstW (Tz.wrongB l) l.length).2 = 0 then .tape maj min l else .fault (Tz.firstW (Tz.wrongB l) l.length).2 (starts.getD (Tz.firstW (Tz.wrongB l) l.length).1.toNat 0)
def restD (L : List Int) (maj min : Int) (r : (List TB × List Int) × St) : PR := match r.2.bad with
  | some (E, p) => .fault E p
  | none => soundD maj min r.1.1 r.1.2
def s8 : St := ⟨8, none⟩
def parseD (L : List Int) : PR :=
  if 1048576 < L.length then .fault 8 0 else if L.length < 8 ∨ L.take 8 ≠ sign8 then .fault 3 0 else
  restD L (num 1 L s8).1 (num 1 L (num 1 L s8).2).1 (blocksM (L.length + 1) 0 L (num 1 L (num 1 L s8).2).2)
/-- a block takes a byte at least -/
theorem block_less (L : List Int) (s : St) (h : left L.length s ≠ 0) : s.k + 1 ≤ (blockM L s).2.k := by
  have hb : s.bad = none := by
    cases hb : s.bad with
    | none => rfl
    | some q => unfold left at h; rw [hb] at h; exact absurd rfl h
  have hk : s.k < L.length := by unfold left at h; rw [hb] at h; simp only at h; omega
  have h1 : (num 1 L s).2 = ⟨s.k + 1, none⟩ := by
    show (nextM 1 L s).2 = _
    unfold nextM
    rw [hb]
    simp only
    rw [if_neg (by omega)]
  have h2 : Good 0 (bodyM (num 1 L s).1 s.k) ∨ True := .inr trivial
  have hg : Good s.k (bodyM (num 1 L s).1 (s.k : Int)) := by
    unfold bodyM
    exact good_if (good_sound _ _ (by omega)) (good_if (good_leads _ _ (by omega)) (good_tells _ _ (by omega)))
  have h3 := hg.mono L (num 1 L s).2
  rw [h1] at h3
  show s.k + 1 ≤ (bodyM (num 1 L s).1 (s.k : Int) L (num 1 L s).2).2.k
  rw [h1]
  exact h3
theorem left_le (L : List Int) (s : St) (h : left L.length s ≠ 0) : left L.length (blockM L s).2 < left L.length s := by
  have h1 := block_less L s h
  have hb : s.bad = none := by
    cases hb : s.bad with
    | none => rfl
    | some q => unfold left at h; rw [hb] at h; exact absurd rfl h
  unfold left at h ⊢
  rw [hb] at h ⊢
  simp only at h ⊢
  split <;> omega
theorem blocks_keep (f cnt : Nat) (L : List Int) (s : St) (q : Int × Int) (h : s.bad = some q) : (blocksM f cnt L s).2 = s := by
  cases f with
  | zero => rfl
  | succ f =>
    have : left L.length s = 0 := by unfold left; rw [h]
    simp only [blocksM, if_pos this]
theorem blocks_count (f cnt : Nat) (L : List Int) (s : St) : (blocksM f cnt L s).1.1.length + s.k ≤ (blocksM f cnt L s).2.k := by
  induction f generalizing cnt s with
  | zero => simp [blocksM, ret]
  | succ f ih =>
    unfold blocksM
    split
    · simp
    · rename_i h
      split
      · simp [fail_k]
      · have h1 := block_less L s h
        have h2 := ih (cnt + 1) (blockM L s).2
        simp only [List.length_cons]
        omega
theorem blocks_le (f cnt : Nat) (L : List Int) (s : St) (h : s.k ≤ L.length) : (blocksM f cnt L s).2.k ≤ L.length := by
  induction f generalizing cnt s with
  | zero => exact h
  | succ f ih =>
    unfold blocksM
    split
    · exact h
    · split
      · rw [fail_k]; exact h
      · exact ih _ _ ((good_block (a := 0)).le L s h)
theorem blocks_starts (f cnt : Nat) (L : List Int) (s : St) (h : s.k ≤ L.length) : ∀ x ∈ (blocksM f cnt L s).1.2, 0 ≤ x ∧ x ≤ L.length := by
  induction f generalizing cnt s with
  | zero => intro x hx; simp [blocksM, ret] at hx
  | succ f ih =>
    unfold blocksM
    split
    · intro x hx; simp at hx
    · split
      · intro x hx; simp at hx
      · intro x hx
        simp only [List.mem_cons] at hx
        rcases hx with rfl | hx
        · omega
        · exact ih _ _ ((good_block (a := 0)).le L s h) x hx
theorem blocks_placed (f cnt : Nat) (L : List Int) (s : St) (hb : s.bad = none) (h : s.k ≤ L.length) (E p : Int) (hq : (blocksM f cnt L s).2.bad = some (E, p)) : 0 ≤ p ∧ p ≤ L.length := by
  induction f generalizing cnt s with
  | zero => simp only [blocksM, ret] at hq; rw [hb] at hq; cases hq
  | succ f ih =>
    unfold blocksM at hq
    split at hq
    · rw [hb] at hq; cases hq
    · split at hq
      · simp only [fail, hb] at hq; simp at hq; omega
      · cases h1 : (blockM L s).2.bad with
        | none => exact ih _ _ h1 ((good_block (a := 0)).le L s h) hq
        | some q =>
          simp only at hq
          rw [blocks_keep f _ L _ q h1, h1] at hq
          rw [hq] at h1
          exact (good_block (a := 0)).placed L s E p hb (Nat.zero_le _) h h1
theorem left_more (L M : List Int) (s : St) (h : left L.length s ≠ 0) : left (L ++ M).length s ≠ 0 := by
  unfold left at h ⊢
  split
  · simp only [List.length_append]; rename_i hb; rw [hb] at h; simp only at h; omega
  · rename_i q hq; rw [hq] at h; exact absurd rfl h
theorem blocks_ahead (f f' cnt : Nat) (L M : List Int) (s : St) (hf : f ≤ f') (hb : s.bad = none) (h : s.k ≤ L.length) (E p : Int) (hq : (blocksM f cnt L s).2.bad = some (E, p)) (hE : E ≠ 2) : (blocksM f' cnt (L ++ M) s).2.bad = some (E, p) := by
  induction f generalizing f' cnt s with
  | zero => simp only [blocksM, ret] at hq; rw [hb] at hq; cases hq
  | succ f ih =>
    obtain ⟨g, rfl⟩ : ∃ g, f' = g + 1 := ⟨f' - 1, by omega⟩
    unfold blocksM at hq ⊢
    split at hq
    · rw [hb] at hq; cases hq
    · rename_i hl
      rw [if_neg (left_more L M s hl)]
      split at hq
      · rename_i hc
        rw [if_pos hc]; exact hq
      · rename_i hc
        rw [if_neg hc]
        simp only at hq ⊢
        have hg := (good_block (a := 0)).ahead L M s hb h
        cases h1 : (blockM L s).2.bad with
        | none =>
          rw [hg.1 h1]
          exact ih _ _ _ (by omega) h1 ((good_block (a := 0)).le L s h) hq
        | some q =>
          rw [blocks_keep f _ L _ q h1, h1] at hq
          rw [hq] at h1
          have h2 := hg.2 E p h1 hE
          rw [blocks_keep g _ (L ++ M) _ _ h2]
          exact h2
/-- the fault of a tape: where, and that it stays -/
theorem sound_codes (l : List TB) (n : Nat) : (Tz.firstW (Tz.wrongB l) n).2 = 0 ∨ (Tz.firstW (Tz.wrongB l) n).2 = 5 ∨ (Tz.firstW (Tz.wrongB l) n).2 = 6 := by
  have hw : ∀ i, Tz.wrongB l i = 0 ∨ Tz.wrongB l i = 5 ∨ Tz.wrongB l i = 6 := fun i => by
    unfold Tz.wrongB
    split
    · exact .inr (.inr rfl)
    · split
      · exact .inr (.inl rfl)
      · exact .inl rfl
  induction n with
  | zero => exact .inl rfl
  | succ n ih =>
    simp only [Tz.firstW]
    split
    · exact ih
    · split
      · exact hw n
      · exact .inl rfl
theorem two_heads (L : List Int) (h : 8 ≤ L.length) : (num 1 L (num 1 L s8).2).2.k ≤ L.length ∧ ((num 1 L (num 1 L s8).2).2.bad = none → (num 1 L (num 1 L s8).2).2.k = 10) := by
  have h1 : ∀ s : St, s.bad = none → (num 1 L s).2.bad = none → (num 1 L s).2.k = s.k + 1 := fun s hb h2 => by
    have e : (num 1 L s).2 = (nextM 1 L s).2 := rfl
    rw [e] at h2 ⊢
    unfold nextM at h2 ⊢
    rw [hb] at h2 ⊢
    simp only at h2 ⊢
    split at h2
    · cases h2
    · rename_i hc; rw [if_neg hc]
  refine ⟨(good_num (a := 0) 1).le L _ ((good_num (a := 0) 1).le L _ h), fun hb => ?_⟩
  have hb1 : (num 1 L s8).2.bad = none := by
    cases hq : (num 1 L s8).2.bad with
    | none => rfl
    | some q => rw [(good_num (a := 0) 1).keep L _ q hq, hq] at hb; cases hb
  rw [h1 _ hb1 hb, h1 _ rfl hb1]
  rfl
theorem parse_tape (L : List Int) (maj min : Int) (l : List TB) (h : parseD L = .tape maj min l) : l.length + 10 ≤ L.length := by
  unfold parseD at h
  split at h
  · cases h
  · split at h
    · cases h
    · rename_i h1 h2
      have h8 : 8 ≤ L.length := by
        rcases Nat.lt_or_ge L.length 8 with h3 | h3
        · exact absurd (.inl h3) h2
        · exact h3
      have hh := two_heads L h8
      have hc := blocks_count (L.length + 1) 0 L (num 1 L (num 1 L s8).2).2
      have hl := blocks_le (L.length + 1) 0 L (num 1 L (num 1 L s8).2).2 hh.1
      have hbn : (num 1 L (num 1 L s8).2).2.bad = none := by
        cases hq : (num 1 L (num 1 L s8).2).2.bad with
        | none => rfl
        | some q =>
          unfold restD at h
          rw [blocks_keep _ _ L _ q hq, hq] at h
          cases h
      have hk := hh.2 hbn
      unfold restD at h
      split at h
      · cases h
      · unfold soundD at h
        split at h
        · injection h with _ _ h
          rw [← h]
          omega
        · cases h
theorem parse_placed (L : List Int) (E p : Int) (h : parseD L = .fault E p) : 0 ≤ p ∧ p ≤ L.length := by
  unfold parseD at h
  split at h
  · injection h with _ h; omega
  · split at h
    · injection h with _ h; omega
    · rename_i h1 h2
      have h8 : 8 ≤ L.length := by
        rcases Nat.lt_or_ge L.length 8 with h3 | h3
        · exact absurd (.inl h3) h2
        · exact h3
      have hh := two_heads L h8
      unfold restD at h
      split at h
      · rename_i E' p' hq
        injection h with e1 e2
        subst e1 e2
        cases hb : (num 1 L (num 1 L s8).2).2.bad with
        | none => exact blocks_placed _ _ L _ hb hh.1 _ _ hq
        | some q =>
          rw [blocks_keep _ _ L _ q hb] at hq
          have g2 : Good 0 (bind (num 1) fun _ => num 1) := good_bind (good_num 1) fun _ => good_num 1
          exact g2.placed L s8 _ _ rfl (Nat.zero_le _) h8 hq
      · unfold soundD at h
        split at h
        · cases h
        · injection h with _ h
          rw [← h]
          have hs := blocks_starts (L.length + 1) 0 L (num 1 L (num 1 L s8).2).2 hh.1
          rw [List.getD_eq_getElem?_getD]
          cases hx : (blocksM (L.length + 1) 0 L (num 1 L (num 1 L s8).2).2).1.2[(Tz.firstW (Tz.wrongB (blocksM (L.length + 1) 0 L (num 1 L (num 1 L s8).2).2).1.1) (blocksM (L.length + 1) 0 L (num 1 L (num 1 L s8).2).2).1.1.length).1.toNat]? with
          | none => simp
          | some x => exact hs x (List.mem_of_getElem? hx)
theorem parse_ahead (L M : List Int) (E p : Int) (h : parseD L = .fault E p) (hE : E ≠ 2 ∧ E ≠ 8 ∧ E ≠ 6 ∧ E ≠ 5) (h3 : ¬ (E = 3 ∧ L.length < 8)) (hM : (L ++ M).length ≤ 1048576) : parseD (L ++ M) = .fault E p := by
  unfold parseD at h ⊢
  split at h
  · injection h with e1 _; omega
  · rw [if_neg (by omega)]
    split at h
    · rename_i h1 h2
      injection h with e1 e2
      have h8 : 8 ≤ L.length := by
        rcases Nat.lt_or_ge L.length 8 with h4 | h4
        · exact absurd ⟨e1.symm, h4⟩ h3
        · exact h4
      have ht : (L ++ M).take 8 = L.take 8 := List.take_append_of_le_length h8
      rw [if_pos, e1, e2]
      refine .inr ?_
      rw [ht]
      rcases h2 with h2 | h2
      · omega
      · exact h2
    · rename_i h1 h2
      have h8 : 8 ≤ L.length := by
        rcases Nat.lt_or_ge L.length 8 with h3 | h3
        · exact absurd (.inl h3) h2
        · exact h3
      have ht : (L ++ M).take 8 = L.take 8 := List.take_append_of_le_length h8
      have h4 : L.take 8 = sign8 := by
        by_cases h5 : L.take 8 = sign8
        · exact h5
        · exact absurd (.inr h5) h2
      rw [if_neg (by rw [ht, h4]; simp; omega)]
      have hh := two_heads L h8
      have g2 : Good 0 (bind (num 1) fun _ => num 1) := good_bind (good_num 1) fun _ => good_num 1
      have g1 : Good 0 (num 1) := good_num 1
      unfold restD at h
      split at h
      · rename_i E' p' hq
        injection h with e1 e2
        subst e1 e2
        have key : (blocksM ((L ++ M).length + 1) 0 (L ++ M) (num 1 (L ++ M) (num 1 (L ++ M) s8).2).2).2.bad = some (E', p') := by
          cases hb : (num 1 L (num 1 L s8).2).2.bad with
          | none =>
            have e3 : (num 1 (L ++ M) (num 1 (L ++ M) s8).2).2 = (num 1 L (num 1 L s8).2).2 := by
              have := (g2.ahead L M s8 rfl h8).1 hb
              exact congrArg Prod.snd this
            rw [e3]
            exact blocks_ahead _ _ 0 L M _ (by simp) hb hh.1 _ _ hq hE.1
          | some q =>
            rw [blocks_keep _ _ L _ q hb] at hq
            have h5 := (g2.ahead L M s8 rfl h8).2 E' p' hq hE.1
            have h6 : (num 1 (L ++ M) (num 1 (L ++ M) s8).2).2.bad = some (E', p') := h5
            rw [blocks_keep _ _ (L ++ M) _ _ h6]
            exact h6
        unfold restD
        rw [key]
      · unfold soundD at h
        split at h
        · cases h
        · injection h with e1 _
          rcases sound_codes (blocksM (L.length + 1) 0 L (num 1 L (num 1 L s8).2).2).1.1 (blocksM (L.length + 1) 0 L (num 1 L (num 1 L s8).2).2).1.1.length with h5 | h5 | h5
          · contradiction
          · rw [h5] at e1; omega
          · rw [h5] at e1; omega
end Rd
end Go.Proofs.Ytaipkoeiahjghaa
