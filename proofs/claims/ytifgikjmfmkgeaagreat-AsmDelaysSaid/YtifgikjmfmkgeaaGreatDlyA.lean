/- AsmDelays: what waits, in plain Lean: it goes through just so many T-states. -/
import Derived.Test.YtifgikjmfmkgeaaGreatDBus
import Derived.Test.YtifgikjmfmkgeaaGreatDAsm
namespace Go.Proofs.YtifgikjmfmkgeaaGreat
set_option linter.unusedSimpArgs false
set_option linter.unusedVariables false
open Go.RowKit
/-! bytes that are laid: the assembler's (turned from the texts of AsmMakes) -/
def AddsA (d d' : AsmD) (l : List Int) : Prop := (d.here + l.length ≤ 65536 ∧ d' = { d with out := d.out ++ l }) ∨ (65536 < d.here + l.length ∧ d'.e = 8 ∧ d'.mks = d.mks)
theorem bytesF_bad {d : AsmD} (h : d.e ≠ 0) (l : List Int) : bytesF d l = d := by unfold bytesF; rw [if_pos h]
theorem adds_then {d d1 : AsmD} {l1 : List Int} (he : d.e = 0) (h : AddsA d d1 l1) (l2 : List Int) : AddsA d (bytesF d1 l2) (l1 ++ l2) := by
  rcases h with ⟨h1, rfl⟩ | ⟨h1, h2, h3⟩
  · unfold bytesF
    rw [if_neg (by simpa using he)]
    by_cases ho : 65536 < d.org + ((d.out ++ l1).length : Int) + l2.length
    · rw [if_pos ho]
      right
      refine ⟨?_, rfl, rfl⟩
      unfold AsmD.here
      simp only [List.length_append] at ho ⊢
      omega
    · rw [if_neg ho]
      left
      refine ⟨?_, by simp⟩
      unfold AsmD.here
      simp only [List.length_append] at ho ⊢
      omega
  · right
    rw [bytesF_bad (by omega)]
    refine ⟨?_, h2, h3⟩
    simp only [List.length_append]
    omega
theorem adds_nil (d : AsmD) (h : d.here ≤ 65536) : AddsA d d [] := .inl ⟨by simpa using h, by simp⟩
theorem adds_bytes {d : AsmD} (he : d.e = 0) (h : d.here ≤ 65536) (l : List Int) : AddsA d (bytesF d l) l := by
  have := adds_then he (adds_nil d h) l
  simpa using this
theorem adds_fold {d : AsmD} (he : d.e = 0) : ∀ (R : List (List Int)) {d1 : AsmD} {l1 : List Int}, AddsA d d1 l1 → AddsA d (R.foldl bytesF d1) (l1 ++ R.flatten)
  | [], d1, l1, h => by simpa using h
  | r :: R, d1, l1, h => by
    have := adds_fold he R (adds_then he h r)
    simpa [List.append_assoc] using this
theorem adds_next {d d1 : AsmD} {l1 : List Int} (he : d.e = 0) (h : AddsA d d1 l1) : AddsA d (nextF d1) (l1 ++ nextL (d.here + l1.length)) := by
  have h0 := h
  rcases h with ⟨h1, rfl⟩ | ⟨h1, h2, h3⟩
  · have := adds_then he h0 (nextL (d.here + l1.length))
    unfold nextF
    have e : AsmD.here { d with out := d.out ++ l1 } = d.here + l1.length := by unfold AsmD.here; simp; omega
    rw [e]
    exact this
  · unfold nextF
    rw [bytesF_bad (by omega)]
    right
    refine ⟨?_, h2, h3⟩
    simp only [List.length_append]
    omega
theorem adds_rest {d d1 : AsmD} {l1 : List Int} (he : d.e = 0) (h : AddsA d d1 l1) (m : Int) : AddsA d (restF d1 m) (l1 ++ tailL m (d.here + l1.length)) := by
  unfold restF tailL
  by_cases h1 : m % 4 = 1
  · rw [if_pos h1, if_pos h1]
    have := adds_then he (adds_then he (adds_next he h) [6, 0]) (zerosL ((m - 17) / 4))
    simpa [List.append_assoc] using this
  · rw [if_neg h1, if_neg h1]
    by_cases h2 : m % 4 = 2
    · rw [if_pos h2, if_pos h2]
      have := adds_then he (adds_next he h) (zerosL ((m - 10) / 4))
      simpa [List.append_assoc] using this
    · rw [if_neg h2, if_neg h2]
      by_cases h3 : m % 4 = 3
      · rw [if_pos h3, if_pos h3]
        have := adds_then he (adds_then he h [6, 0]) (zerosL ((m - 7) / 4))
        simpa [List.append_assoc] using this
      · rw [if_neg h3, if_neg h3]
        exact adds_then he h _
theorem adds_delay {d : AsmD} (he : d.e = 0) (h : d.here ≤ 65536) {n : Int} (hm : mayB n = true) : AddsA d (delayF d n) (waitL n d.here) := by
  unfold delayF waitL
  rw [if_neg (by omega), if_neg (by rw [hm]; decide)]
  have h1 := adds_fold he (rounds (n.toNat + 1) n).1 (adds_nil d h)
  rw [List.nil_append] at h1
  exact adds_rest he h1 _
/-- a call's bytes, with nothing told -/

theorem roundK_in {n : Int} (h : ¬ n < 29) : 1 ≤ roundK n ∧ roundK n ≤ 255 ∧ 14 ≤ n - (13 * roundK n + 2) := by unfold roundK; omega
theorem goes_rounds (s : Nat) (hb : s < 65530) : ∀ (fu : Nat) (n : Int) (p : Nat) (r : Rg) (f : Fl), MayN n → n.toNat < fu → AtI r p → p + (rounds fu n).1.flatten.length ≤ s → f.line = false → CodeAt f.m p (rounds fu n).1.flatten →
    Goes s (n - (rounds fu n).2).toNat p (p + (rounds fu n).1.flatten.length) r f ∧ MayN (rounds fu n).2 ∧ (rounds fu n).2 < 29 ∧ (rounds fu n).2 ≤ n
  | 0, _, _, _, _, _, h, _, _, _, _ => absurd h (by omega)
  | fu + 1, n, p, r, f, hm, hf, ha, hs, hl, hc => by
    by_cases hn : n < 29
    · rw [rounds_end hn] at hs hc ⊢
      have e : (n - n).toNat = 0 := by omega
      refine ⟨?_, hm, hn, Int.le_refl _⟩
      show Goes s (n - n).toNat p (p + 0) r f
      rw [e]
      exact goes_nil s p r f ha
    · obtain ⟨k1, k2, k3⟩ := roundK_in hn
      obtain ⟨k, hk⟩ : ∃ k : Nat, roundK n = k := ⟨(roundK n).toNat, by omega⟩
      rw [rounds_step hn] at hs hc ⊢
      obtain ⟨n', hn'⟩ : ∃ n', n' = n - (13 * roundK n + 2) := ⟨_, rfl⟩
      rw [← hn'] at hs hc k3 ⊢
      have hrb : roundB n = [6, (k : Int), 16, 254] := by unfold roundB; rw [hk]
      have hle : n ≤ 1000000 := by rcases hm with h | h | h | h | h | h | h | h <;> omega
      have hm' : MayN n' := by refine .inr (.inr (.inr (.inr (.inr (.inr (.inr ⟨k3, ?_⟩)))))); omega
      simp only [List.flatten_cons, List.length_append] at hs hc ⊢
      rw [hrb] at hs hc ⊢
      have h1 := goes_round s hb p k r f (by omega) (by omega) ha (by have : ([6, (k : Int), 16, 254] : List Int).length = 4 := rfl; omega) hl hc.left
      have hc2 := hc.right
      have e4 : ([6, (k : Int), 16, 254] : List Int).length = 4 := rfl
      rw [e4] at hs hc2 ⊢
      obtain ⟨r1, f1, q1, q2, q3, q4⟩ := h1
      obtain ⟨i1, i2, i3, i4⟩ := goes_rounds s hb fu n' (p + 4) r1 f1 hm' (by omega) q2 (by omega) (by rw [q4.line]; exact hl) (by rw [q4.m]; exact hc2)
      refine ⟨?_, i2, i3, by omega⟩
      obtain ⟨r2, f2, j1, j2, j3, j4⟩ := i1
      have et : (n - (rounds fu n').2).toNat = 13 * k + 2 + (n' - (rounds fu n').2).toNat := by omega
      rw [show p + (4 + (rounds fu n').1.flatten.length) = p + 4 + (rounds fu n').1.flatten.length by omega, et]
      exact ⟨r2, f2, q1.trans j1, j2, q3.trans j3, q4.trans j4⟩
theorem zeros_len (k : Int) : (zerosL k).length = k.toNat := List.length_replicate ..
theorem goes_tail (s : Nat) (hb : s < 65530) (m : Int) (p : Nat) (r : Rg) (f : Fl) (hm : MayN m) (hlt : m < 29) (ha : AtI r p) (hs : p + (tailL m p).length ≤ s) (hl : f.line = false) (hc : CodeAt f.m p (tailL m p)) : Goes s m.toNat p (p + (tailL m p).length) r f := by
  unfold tailL at hs hc ⊢
  have hm0 : 0 ≤ m ∧ (m % 4 = 1 → 17 ≤ m) ∧ (m % 4 = 2 → 10 ≤ m) ∧ (m % 4 = 3 → 7 ≤ m) := by unfold MayN at hm; omega
  obtain ⟨m0, m1, m2, m3⟩ := hm0
  by_cases h1 : m % 4 = 1
  · simp only [if_pos h1] at hs hc ⊢
    have := m1 h1
    obtain ⟨j, hj⟩ : ∃ j, j = ((m - 17) / 4).toNat := ⟨_, rfl⟩
    have ez : zerosL ((m - 17) / 4) = List.replicate j 0 := by unfold zerosL; rw [hj]
    rw [ez] at hs hc ⊢
    have el : (nextL p).length = 3 := rfl
    have e2 : ([6, 0] : List Int).length = 2 := rfl
    simp only [List.length_append, List.length_replicate, el, e2] at hs ⊢
    have hc2 := hc.right
    rw [el] at hc2
    have hc3 := hc2.right
    rw [e2] at hc3
    rw [show m.toNat = 10 + (7 + 4 * j) by omega, show p + (3 + (2 + j)) = p + 3 + 2 + j by omega]
    refine (goes_jp s hb p r f ha (by omega) hl hc.left).then (fun r1 f1 a1 b1 => ?_)
    refine (goes_ldB s hb (p + 3) r1 f1 a1 (by omega) (by rw [b1.line]; exact hl) (by rw [b1.m]; exact hc2.left)).then (fun r2 f2 a2 b2 => ?_)
    exact goes_zeros s hb j (p + 3 + 2) r2 f2 a2 (by omega) (by rw [b2.line, b1.line]; exact hl) (by rw [b2.m, b1.m]; exact hc3)
  by_cases h2 : m % 4 = 2
  · simp only [if_neg h1, if_pos h2] at hs hc ⊢
    have := m2 h2
    obtain ⟨j, hj⟩ : ∃ j, j = ((m - 10) / 4).toNat := ⟨_, rfl⟩
    have ez : zerosL ((m - 10) / 4) = List.replicate j 0 := by unfold zerosL; rw [hj]
    rw [ez] at hs hc ⊢
    have el : (nextL p).length = 3 := rfl
    simp only [List.length_append, List.length_replicate, el] at hs ⊢
    have hc2 := hc.right
    rw [el] at hc2
    rw [show m.toNat = 10 + 4 * j by omega, show p + (3 + j) = p + 3 + j by omega]
    refine (goes_jp s hb p r f ha (by omega) hl hc.left).then (fun r1 f1 a1 b1 => ?_)
    exact goes_zeros s hb j (p + 3) r1 f1 a1 (by omega) (by rw [b1.line]; exact hl) (by rw [b1.m]; exact hc2)
  by_cases h3 : m % 4 = 3
  · simp only [if_neg h1, if_neg h2, if_pos h3] at hs hc ⊢
    have := m3 h3
    obtain ⟨j, hj⟩ : ∃ j, j = ((m - 7) / 4).toNat := ⟨_, rfl⟩
    have ez : zerosL ((m - 7) / 4) = List.replicate j 0 := by unfold zerosL; rw [hj]
    rw [ez] at hs hc ⊢
    have e2 : ([6, 0] : List Int).length = 2 := rfl
    simp only [List.length_append, List.length_replicate, e2] at hs ⊢
    have hc2 := hc.right
    rw [e2] at hc2
    rw [show m.toNat = 7 + 4 * j by omega, show p + (2 + j) = p + 2 + j by omega]
    refine (goes_ldB s hb p r f ha (by omega) hl hc.left).then (fun r1 f1 a1 b1 => ?_)
    exact goes_zeros s hb j (p + 2) r1 f1 a1 (by omega) (by rw [b1.line]; exact hl) (by rw [b1.m]; exact hc2)
  · simp only [if_neg h1, if_neg h2, if_neg h3] at hs hc ⊢
    obtain ⟨j, hj⟩ : ∃ j, j = (m / 4).toNat := ⟨_, rfl⟩
    have ez : zerosL (m / 4) = List.replicate j 0 := by unfold zerosL; rw [hj]
    rw [ez] at hs hc ⊢
    simp only [List.length_replicate] at hs ⊢
    rw [show m.toNat = 4 * j by omega]
    exact goes_zeros s hb j p r f ha (by omega) hl hc
/-- what waits goes through just so many T-states -/
theorem goes_wait (s : Nat) (hb : s < 65530) (n : Int) (p : Nat) (r : Rg) (f : Fl) (hm : MayN n) (ha : AtI r p) (hs : p + (waitL n p).length ≤ s) (hl : f.line = false) (hc : CodeAt f.m p (waitL n p)) : Goes s n.toNat p (p + (waitL n p).length) r f := by
  unfold waitL headL at hs hc ⊢
  rw [List.length_append] at hs ⊢
  obtain ⟨m, hmm⟩ : ∃ m, m = (rounds (n.toNat + 1) n).2 := ⟨_, rfl⟩
  obtain ⟨H, hH⟩ : ∃ H, H = (rounds (n.toNat + 1) n).1.flatten := ⟨_, rfl⟩
  obtain ⟨h1, h2, h3, h4⟩ := goes_rounds s hb (n.toNat + 1) n p r f hm (by omega) ha (by rw [← hH] at hs ⊢; omega) hl hc.left
  rw [← hmm, ← hH] at h1
  rw [← hmm] at h2 h3 h4
  rw [← hmm, ← hH] at hs hc ⊢
  have e : ((p : Int) + (H.length : Int)) = ((p + H.length : Nat) : Int) := by omega
  rw [e] at hs hc ⊢
  have h0 : 0 ≤ m := by unfold MayN at h2; omega
  rw [show n.toNat = (n - m).toNat + m.toNat by omega, show p + (H.length + (tailL m ((p + H.length : Nat) : Int)).length) = p + H.length + (tailL m ((p + H.length : Nat) : Int)).length by omega]
  refine h1.then (fun r1 f1 a1 b1 => ?_)
  exact goes_tail s hb m (p + H.length) r1 f1 h2 h3 a1 (by omega) (by rw [b1.line]; exact hl) (by rw [b1.m]; exact hc.right)
theorem rounds_len : ∀ (fu : Nat) (n : Int), 0 ≤ n → ((rounds fu n).1.flatten.length : Int) ≤ 4 * (n / 3317 + 1)
  | 0, n, h => by show ((0 : Nat) : Int) ≤ _; omega
  | fu + 1, n, h => by
    by_cases hn : n < 29
    · rw [rounds_end hn]; show ((0 : Nat) : Int) ≤ _; omega
    · rw [rounds_step hn]
      obtain ⟨k1, k2, k3⟩ := roundK_in hn
      have hl : (roundB n).length = 4 := rfl
      simp only [List.flatten_cons, List.length_append, hl]
      obtain ⟨n', hn'⟩ : ∃ n', n' = n - (13 * roundK n + 2) := ⟨_, rfl⟩
      rw [← hn']
      by_cases h255 : roundK n = 255
      · have := rounds_len fu n' (by omega)
        omega
      · have h29 : n' < 29 := by unfold roundK at h255 hn'; omega
        rw [rounds_end h29]
        show (((4 + 0 : Nat)) : Int) ≤ _
        omega
theorem tail_len (m x : Int) (hm : m < 29) : (tailL m x).length ≤ 12 := by
  unfold tailL
  repeat' split
  all_goals
    simp only [List.length_append, zeros_len, nextL, List.length_cons, List.length_nil]
    omega
theorem wait_len (n x : Int) (h0 : MayN n) (h : n ≤ 30000) : (waitL n x).length ≤ 60 := by
  unfold waitL headL
  rw [List.length_append]
  have hn0 : 0 ≤ n := by unfold MayN at h0; omega
  have h1 := rounds_len (n.toNat + 1) n hn0
  have h2 : (rounds (n.toNat + 1) n).2 < 29 := by
    have : ∀ (fu : Nat) (n : Int), n.toNat < fu → (rounds fu n).2 < 29 := by
      intro fu
      induction fu with
      | zero => intro n h; omega
      | succ fu ih =>
        intro n h
        by_cases hn : n < 29
        · rw [rounds_end hn]; exact hn
        · rw [rounds_step hn]
          obtain ⟨k1, k2, k3⟩ := roundK_in hn
          exact ih _ (by omega)
    exact this _ _ (by omega)
  have h3 := tail_len (rounds (n.toNat + 1) n).2 (x + ((rounds (n.toNat + 1) n).1.flatten.length : Nat)) h2
  omega
end Go.Proofs.YtifgikjmfmkgeaaGreat
