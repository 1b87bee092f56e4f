/- Texts that are laid together: QSpR. -/
import Derived.Test.YtokidpajialgbaaQSpPC
import Derived.Test.YtokidpajialgbaaQG49
import Derived.Test.YtokidpajialgbaaQG45
import Derived.Test.YtokidpajialgbaaQG05
import Derived.Test.YtokidpajialgbaaQG50
namespace Go.Proofs.Ytokidpajialgbaa
set_option linter.unusedSimpArgs false
set_option linter.unusedVariables false
theorem leB_leVal : ∀ (n : Nat) (l : List Int), l.length = n → Byts l → leB (leVal l) n = l ∧ 0 ≤ leVal l ∧ leVal l < 256 ^ n := by
  intro n
  induction n with
  | zero => intro l h _; rw [List.eq_nil_of_length_eq_zero h]; exact ⟨rfl, by decide, by decide⟩
  | succ n ih =>
    intro l h hb
    obtain ⟨a, y, rfl⟩ : ∃ a y, l = a ++ [y] := by
      rcases List.eq_nil_or_concat l with h0 | ⟨a, y, h0⟩
      · rw [h0] at h; simp at h
      · exact ⟨a, y, by rw [h0]; simp⟩
    have ha : a.length = n := by simpa using h
    obtain ⟨h1, h2, h3⟩ := ih a ha (fun x hx => hb x (by simp [hx]))
    have hy := hb y (by simp)
    have hp : (0 : Int) < 256 ^ n := Int.pow_pos (by decide)
    rw [leVal_snoc, ha]
    have e1 : (leVal a + 256 ^ n * y) / 256 ^ n % 256 = y := by
      rw [Int.add_mul_ediv_left _ _ (by omega), Int.ediv_eq_zero_of_lt h2 h3]
      omega
    have e2 : ∀ k, k ≤ n → leB (leVal a + 256 ^ n * y) k = leB (leVal a) k := by
      intro k
      induction k with
      | zero => intro _; rfl
      | succ k ihk =>
        intro hk
        simp only [leB]
        rw [ihk (by omega)]
        congr 2
        obtain ⟨d, hd⟩ : ∃ d, n = k + 1 + d := ⟨n - (k + 1), by omega⟩
        have e3 : (256 : Int) ^ n * y = 256 ^ k * (256 * (256 ^ d * y)) := by
          rw [hd, Int.pow_add, Int.pow_succ]
          simp only [Int.mul_assoc]
        rw [e3, Int.add_mul_ediv_left _ _ (show (256 : Int) ^ k ≠ 0 by have : (0 : Int) < 256 ^ k := Int.pow_pos (by decide); omega), Int.add_mul_emod_self_left]
    refine ⟨?_, ?_, ?_⟩
    · simp only [leB]
      rw [e2 n (Nat.le_refl _), h1, e1]
    · have : 0 ≤ 256 ^ n * y := Int.mul_nonneg (by omega) (by omega)
      omega
    · have : 256 ^ n * y ≤ 256 ^ n * 255 := Int.mul_le_mul_of_nonneg_left (by omega) (by omega)
      have e : (256 : Int) ^ (n + 1) = 256 ^ n * 255 + 256 ^ n := by rw [Int.pow_succ, show (256 : Int) = 255 + 1 from rfl, Int.mul_add, Int.mul_one]
      rw [e]
      have h4 : (256 : Int) ^ n = (255 + 1) ^ n := rfl
      omega
namespace Rd
/-- what is read without a fault comes of just such bytes -/
def Wrote {α : Type} (m : RM α) (R : α → List Int → Prop) : Prop := ∀ (L : List Int) (s : St), Byts L → (m L s).2.bad = none → s.bad = none ∧ ∃ bs, L.drop s.k = bs ++ L.drop (m L s).2.k ∧ (m L s).2.k = s.k + bs.length ∧ Byts bs ∧ R (m L s).1 bs
theorem Wrote.to {α : Type} {m : RM α} {R R' : α → List Int → Prop} (h : Wrote m R) (hR : ∀ x bs, Byts bs → R x bs → R' x bs) : Wrote m R' := fun L s hL hb => by
  obtain ⟨h1, bs, h2, h3, h4, h5⟩ := h L s hL hb
  exact ⟨h1, bs, h2, h3, h4, hR _ _ h4 h5⟩
theorem wrote_ret {α : Type} (x : α) : Wrote (Rd.ret x) (fun y bs => y = x ∧ bs = []) := fun L s hL hb => ⟨hb, [], rfl, rfl, fun _ h => by simp at h, rfl, rfl⟩
theorem Wrote.bind {α β : Type} {m : RM α} {f : α → RM β} {R : α → List Int → Prop} {R' : α → β → List Int → Prop} (h1 : Wrote m R) (h2 : ∀ x, Wrote (f x) (R' x)) : Wrote (Rd.bind m f) (fun y bs => ∃ x b1 b2, R x b1 ∧ R' x y b2 ∧ bs = b1 ++ b2) := fun L s hL hb => by
  unfold Rd.bind at hb ⊢
  obtain ⟨a1, b2, a2, a3, a4, a5⟩ := h2 _ L _ hL hb
  obtain ⟨c1, b1, c2, c3, c4, c5⟩ := h1 L s hL a1
  refine ⟨c1, b1 ++ b2, by rw [c2, a2, List.append_assoc], by rw [a3, c3, List.length_append, Nat.add_assoc], fun x hx => ?_, _, b1, b2, c5, a5, rfl⟩
  rcases List.mem_append.1 hx with h | h
  · exact c4 x h
  · exact a4 x h
theorem wrote_next (j : Nat) : Wrote (nextM j) (fun l bs => l = bs ∧ bs.length = j) := fun L s hL hb => by
  unfold nextM at hb ⊢
  cases hs : s.bad with
  | some q => rw [hs] at hb; simp only at hb; rw [hs] at hb; cases hb
  | none =>
    rw [hs] at hb
    simp only at hb ⊢
    by_cases hj : L.length - s.k < j
    · rw [if_pos hj] at hb; cases hb
    · rw [if_neg hj]
      have hl : ((L.drop s.k).take j).length = j := by rw [List.length_take, List.length_drop]; omega
      refine ⟨trivial, (L.drop s.k).take j, ?_, by rw [hl], fun x hx => hL x (List.mem_of_mem_drop (List.mem_of_mem_take hx)), rfl, hl⟩
      simp only
      rw [← List.drop_drop, List.take_append_drop]
theorem wrote_num (j : Nat) : Wrote (num j) (fun x bs => bs = leB x j ∧ 0 ≤ x ∧ x < 256 ^ j) :=
  (Wrote.bind (wrote_next j) (fun l => wrote_ret (leVal l))).to fun x bs hbs h => by
    obtain ⟨l, b1, b2, ⟨rfl, h1⟩, ⟨rfl, rfl⟩, rfl⟩ := h
    rw [List.append_nil] at hbs ⊢
    obtain ⟨e1, e2, e3⟩ := leB_leVal j _ h1 hbs
    exact ⟨e1.symm, e2, e3⟩
theorem wrote_fail (E p : Int) {R : Unit → List Int → Prop} : Wrote (failM E p) R := fun L s hL hb => by
  unfold failM fail at hb
  cases hs : s.bad with
  | some q => rw [hs] at hb; simp only at hb; rw [hs] at hb; cases hb
  | none => rw [hs] at hb; cases hb
theorem leB_signed (x : Int) (h0 : 0 ≤ x) (h1 : x < 65536) : leB (if 32768 ≤ x then x - 65536 else x) 2 = leB x 2 := by
  split
  · simp only [leB]
    have e0 : (256 : Int) ^ 0 = 1 := rfl
    have e1 : (256 : Int) ^ 1 = 256 := rfl
    rw [e0, e1]
    congr 1
    · congr 2; omega
    · congr 1; omega
  · rfl
theorem wrote_signed : Wrote signed (fun x bs => bs = leB x 2 ∧ -32768 ≤ x ∧ x < 32768) :=
  (Wrote.bind (wrote_num 2) (fun v => wrote_ret _)).to fun x bs hbs h => by
    obtain ⟨v, b1, b2, ⟨rfl, h1, h2⟩, ⟨rfl, rfl⟩, rfl⟩ := h
    rw [List.append_nil]
    have e2 : (256 : Int) ^ 2 = 65536 := by decide
    rw [e2] at h2
    refine ⟨(leB_signed v h1 h2).symm, ?_, ?_⟩ <;> split <;> omega
theorem wrote_take (j : Int) : Wrote (take j) (fun l bs => l = bs ∧ (bs.length : Int) = j) := fun L s hL hb => by
  unfold take at hb ⊢
  by_cases hj : j < 0
  · rw [if_pos hj] at hb
    unfold fail at hb
    cases hs : s.bad with
    | some q => rw [hs] at hb; simp only at hb; rw [hs] at hb; cases hb
    | none => rw [hs] at hb; cases hb
  · rw [if_neg hj] at hb ⊢
    obtain ⟨a, bs, b, c, d, e, f⟩ := wrote_next j.toNat L s hL hb
    exact ⟨a, bs, b, c, d, e, by omega⟩
theorem wrote_data (K : Nat) : Wrote (dataM K) (fun d bs => bs = leB (d.length : Int) K ++ d ∧ (d.length : Int) < 256 ^ K ∧ Byts d) :=
  (Wrote.bind (wrote_num K) (fun m => wrote_take m)).to fun x bs hbs h => by
    obtain ⟨v, b1, b2, ⟨rfl, h1, h2⟩, ⟨rfl, h3⟩, rfl⟩ := h
    rw [h3]
    exact ⟨rfl, h2, fun y hy => hbs y (by simp [hy])⟩
theorem Wrote.unless {α : Type} {m : RM α} {R : α → List Int → Prop} {y : α} (h : Wrote m R) : Wrote (fun L s => match s.bad with | some _ => (y, s) | none => m L s) R := fun L s hL hb => by
  cases hs : s.bad with
  | some q => simp only [hs] at hb; cases hb
  | none =>
    simp only [hs] at hb ⊢
    have := h L s hL hb
    exact ⟨trivial, this.2⟩
theorem wrote_loop {α : Type} {f : RM α} {g : α → List Int} {Q : α → Prop} (h : Wrote f (fun x bs => bs = g x ∧ Q x)) : ∀ m, Wrote (loop f m) (fun l bs => bs = l.flatMap g ∧ l.length = m ∧ ∀ x ∈ l, Q x)
  | 0 => (wrote_ret _).to fun x bs _ h => by obtain ⟨rfl, rfl⟩ := h; exact ⟨rfl, rfl, fun _ h => by simp at h⟩
  | m + 1 => (Wrote.unless (Wrote.bind h fun x => Wrote.bind (wrote_loop h m) fun l => wrote_ret (x :: l))).to fun x bs _ h => by
    obtain ⟨y, b1, b2, ⟨rfl, h1⟩, ⟨l, b3, b4, ⟨rfl, h2, h3⟩, ⟨rfl, rfl⟩, rfl⟩, rfl⟩ := h
    refine ⟨by simp, by simp [h2], fun z hz => ?_⟩
    rcases List.mem_cons.1 hz with rfl | hz
    · exact h1
    · exact h3 z hz
theorem wrote_rep {α : Type} {f : RM α} {g : α → List Int} {Q : α → Prop} (h : Wrote f (fun x bs => bs = g x ∧ Q x)) : ∀ m, Wrote (rep f m) (fun l bs => bs = l.flatMap g ∧ l.length = m ∧ ∀ x ∈ l, Q x)
  | 0 => (wrote_ret _).to fun x bs _ h => by obtain ⟨rfl, rfl⟩ := h; exact ⟨rfl, rfl, fun _ h => by simp at h⟩
  | m + 1 => (Wrote.bind h fun x => Wrote.bind (wrote_rep h m) fun l => wrote_ret (x :: l)).to fun x bs _ h => by
    obtain ⟨y, b1, b2, ⟨rfl, h1⟩, ⟨l, b3, b4, ⟨rfl, h2, h3⟩, ⟨rfl, rfl⟩, rfl⟩, rfl⟩ := h
    refine ⟨by simp, by simp [h2], fun z hz => ?_⟩
    rcases List.mem_cons.1 hz with rfl | hz
    · exact h1
    · exact h3 z hz
theorem fail_none {s : St} {E p : Int} (h : (fail s E p).bad = none) : False := by
  unfold fail at h
  cases hs : s.bad with
  | some q => rw [hs] at h; simp only at h; rw [hs] at h; cases h
  | none => rw [hs] at h; cases h
theorem wrote_numbers (many : Int) (K : Nat) : Wrote (numbers many K) (fun l bs => bs = leL K l ∧ (l.length : Int) = many ∧ ∀ x ∈ l, 0 ≤ x ∧ x < 256 ^ K) := fun L s hL hb => by
  unfold numbers at hb ⊢
  by_cases h1 : many < 0
  · rw [if_pos h1] at hb; exact (fail_none hb).elim
  rw [if_neg h1] at hb ⊢
  by_cases h2 : (left L.length s : Int) / K < many
  · rw [if_pos h2] at hb; exact (fail_none hb).elim
  rw [if_neg h2] at hb ⊢
  obtain ⟨a, bs, b, c, d, e, f, g⟩ := wrote_rep (g := fun x => leB x K) (Q := fun x => 0 ≤ x ∧ x < 256 ^ K) (wrote_num K) many.toNat L s hL hb
  exact ⟨a, bs, b, c, d, e, by omega, g⟩
end Rd
end Go.Proofs.Ytokidpajialgbaa
namespace Go.Proofs.Ytokidpajialgbaa
set_option linter.unusedSimpArgs false
set_option linter.unusedVariables false
namespace Rd
theorem wrote_if {α : Type} {c : Prop} [Decidable c] {m n : RM α} {R : α → List Int → Prop} (h1 : c → Wrote m R) (h2 : ¬ c → Wrote n R) : Wrote (if c then m else n) R := by
  split
  · exact h1 ‹_›
  · exact h2 ‹_›
theorem wrote_check {α : Type} {m : RM α} {R : α → List Int → Prop} (n at_ : Int) (h : Wrote m R) : Wrote (fun L s1 => ((m L s1).1, if ((m L s1).2.k : Int) - s1.k = n then (m L s1).2 else fail (m L s1).2 4 at_)) (fun x bs => R x bs ∧ (bs.length : Int) = n) := fun L s hL hb => by
  simp only at hb ⊢
  split at hb
  · rename_i hc
    rw [if_pos hc]
    obtain ⟨a, bs, b, c, d, e⟩ := h L s hL hb
    exact ⟨a, bs, b, c, d, e, by omega⟩
  · exact (fail_none hb).elim
theorem wrote_check2 {α : Type} {m : RM α} {R : α → List Int → Prop} (n at_ : Int) (h : Wrote m R) : Wrote (fun L s1 => (fun (r : α × St) => if (r.2.k : Int) - s1.k = n then (r.1, r.2) else (r.1, fail r.2 4 at_)) (m L s1)) (fun x bs => R x bs ∧ (bs.length : Int) = n) := fun L s hL hb => by
  simp only at hb ⊢
  split at hb
  · rename_i hc
    rw [if_pos hc]
    obtain ⟨a, bs, b, c, d, e⟩ := h L s hL hb
    exact ⟨a, bs, b, c, d, e, by omega⟩
  · exact (fail_none hb).elim
theorem wrote_item {f : RM Int} {K : Nat} {Q : Int → Prop} (hf : Wrote f (fun x bs => bs = leB x K ∧ Q x)) : Wrote (itemM f) (fun x bs => bs = itemL K x ∧ (Q x.1 ∧ x.2.length ≤ 255 ∧ Byts x.2)) :=
  (Wrote.bind hf fun x => Wrote.bind (wrote_data 1) fun l => wrote_ret (x, l)).to fun x bs _ h => by
    obtain ⟨y, b1, b2, ⟨rfl, h1⟩, ⟨d, b3, b4, ⟨rfl, h2, h3⟩, ⟨rfl, rfl⟩, rfl⟩, rfl⟩ := h
    refine ⟨by simp [itemL], h1, by simp at h2 ⊢; omega, h3⟩
theorem wrote_items {f : RM Int} {K : Nat} {Q : Int → Prop} (at_ : Int) (hf : Wrote f (fun x bs => bs = leB x K ∧ Q x)) : Wrote (itemsM f at_) (fun l bs => bs = leB ((itemsL K l).length : Int) 2 ++ itemsL K l ∧ l.length ≤ 255 ∧ (itemsL K l).length ≤ 65535 ∧ ∀ x ∈ l, Q x.1 ∧ x.2.length ≤ 255 ∧ Byts x.2) := by
  have hi : Wrote (bind (num 1) (fun many => bind (loop (itemM f) many.toNat) fun l => ret l)) (fun l bs => bs = itemsL K l ∧ l.length ≤ 255 ∧ ∀ x ∈ l, Q x.1 ∧ x.2.length ≤ 255 ∧ Byts x.2) :=
    (Wrote.bind (wrote_num 1) fun many => Wrote.bind (wrote_loop (wrote_item hf) many.toNat) fun l => wrote_ret l).to fun x bs _ h => by
      obtain ⟨m, b1, b2, ⟨rfl, h1, h2⟩, ⟨l, b3, b4, ⟨rfl, h3, h4⟩, ⟨rfl, rfl⟩, rfl⟩, rfl⟩ := h
      simp at h2
      refine ⟨?_, by omega, h4⟩
      unfold itemsL itemsT
      rw [List.append_nil, h3, Int.toNat_of_nonneg h1]
  have h : Wrote (bind (num 2) fun n => fun L s1 => (fun (r : List (Int × List Int) × St) => if (r.2.k : Int) - s1.k = n then (r.1, r.2) else (r.1, fail r.2 4 at_)) ((bind (num 1) (fun many => bind (loop (itemM f) many.toNat) fun l => ret l)) L s1)) _ :=
    Wrote.bind (wrote_num 2) fun n => wrote_check2 n at_ hi
  refine Wrote.to (show Wrote (itemsM f at_) _ from h) fun x bs _ h => ?_
  obtain ⟨n, b1, b2, ⟨rfl, h1, h2⟩, ⟨⟨rfl, h3, h4⟩, h5⟩, rfl⟩ := h
  simp at h2
  exact ⟨by rw [h5], h3, by omega, h4⟩
theorem wrote_sym (p : Int) : Wrote (symM p) (fun x bs => bs = symL x ∧ symB p x = true) :=
  (Wrote.bind (wrote_num 1) fun x => Wrote.bind (wrote_numbers p 2) fun l => wrote_ret (x, l)).to fun x bs _ h => by
    obtain ⟨y, b1, b2, ⟨rfl, h1, h2⟩, ⟨d, b3, b4, ⟨rfl, h3, h4⟩, ⟨rfl, rfl⟩, rfl⟩, rfl⟩ := h
    refine ⟨by simp [symL], ?_⟩
    simp at h2
    simp only [symB, fitS, Bool.and_eq_true, List.all_eq_true, List.mem_cons, List.not_mem_nil, or_false, forall_eq, decide_eq_true_eq]
    refine ⟨⟨h1, by omega⟩, h3, fun y hy => ?_⟩
    have := h4 y hy
    simp at this
    omega
theorem wrote_symbols (many p : Int) (hm : 0 ≤ many) : Wrote (symbolsM many.toNat p) (fun l bs => bs = symsL l ∧ symsB many p l = true) :=
  (wrote_loop (wrote_sym p) many.toNat).to fun l bs _ h => by
    obtain ⟨rfl, h1, h2⟩ := h
    refine ⟨rfl, ?_⟩
    unfold symsB
    rw [Bool.and_eq_true]
    exact ⟨by simp; omega, List.all_eq_true.2 h2⟩
theorem wrote_rep2 (below : Int) : Wrote (repM below) (fun x bs => bs = repL x ∧ repB below x = true) := fun L s hL hb => by
  have h : Wrote (bind (num 1) (fun x => bind (num 2) fun t => bind (if below ≤ x then failM 5 (s.k : Int) else ret ()) fun _ => ret (x, t))) (fun x bs => bs = repL x ∧ repB below x = true) :=
    (Wrote.bind (wrote_num 1) fun x => Wrote.bind (wrote_num 2) fun t => Wrote.bind (R := fun _ bs => bs = [] ∧ ¬ below ≤ x) (wrote_if (fun _ => wrote_fail _ _) fun hc => (wrote_ret ()).to fun _ _ _ h => ⟨h.2, hc⟩) fun _ => wrote_ret (x, t)).to fun x bs _ h => by
      obtain ⟨y, b1, b2, ⟨rfl, h1, h2⟩, ⟨t, b3, b4, ⟨rfl, h3, h4⟩, ⟨-, b5, b6, ⟨rfl, h5⟩, ⟨rfl, rfl⟩, rfl⟩, rfl⟩, rfl⟩ := h
      refine ⟨by simp [repL], ?_⟩
      simp at h4
      simp [repB, fitS]
      omega
  exact h L s hL hb
theorem wrote_reps (many : Nat) (below : Int) : Wrote (repsM many below) (fun l bs => bs = repsL l ∧ l.length = many ∧ l.all (repB below) = true) :=
  (wrote_loop (wrote_rep2 below) many).to fun l bs _ h => ⟨h.1, h.2.1, List.all_eq_true.2 h.2.2⟩
theorem wrote_stream (m : Nat) (below : Int) : Wrote (streamM m below) (fun D bs => D = bs ∧ streamB D below m = true ∧ Byts D) := fun L s hL hb => by
  unfold streamM at hb ⊢
  unfold Rd.bind at hb ⊢
  generalize hT : take ((((Tz.few below * m : Nat) : Int) + 8 - 1) / 8) L s = T at hb ⊢
  obtain ⟨D, s'⟩ := T
  simp only at hb ⊢
  cases hs : s'.bad with
  | some q => rw [hs] at hb; simp only at hb; rw [hs] at hb; cases hb
  | none =>
    have hw := wrote_take ((((Tz.few below * m : Nat) : Int) + 8 - 1) / 8) L s hL (by rw [hT]; exact hs)
    rw [hT] at hw
    obtain ⟨a, bs, b, c, d, e, f⟩ := hw
    simp only at b c e
    subst e
    rw [hs] at hb
    simp only at hb ⊢
    by_cases h0 : Tz.few below = 0
    · rw [if_pos h0]
      refine ⟨a, D, b, c, d, rfl, ?_, d⟩
      unfold streamB
      rw [Bool.and_eq_true]
      refine ⟨?_, by rw [decide_eq_true h0]; rfl⟩
      push_cast at f
      simpa using f
    · rw [if_neg h0] at hb ⊢
      by_cases h1 : (List.range m).any (fun i => decide (below ≤ Tz.symv D (Tz.few below) i)) = true
      · rw [if_pos h1] at hb; exact (fail_none hb).elim
      · rw [if_neg h1]
        refine ⟨a, D, b, c, d, rfl, ?_, d⟩
        unfold streamB
        rw [Bool.and_eq_true]
        push_cast at f
        refine ⟨by simpa using f, ?_⟩
        rw [decide_eq_false h0, Bool.false_or, List.all_eq_true]
        intro i hi
        simp only [decide_eq_true_eq]
        refine Int.not_le.1 fun hc => h1 ?_
        rw [List.any_eq_true]
        exact ⟨i, by simpa using hi, by simpa using hc⟩
theorem wrote_fixed (v : Int) : Wrote (fixed v) (fun _ bs => bs = leB v 4) := fun L s hL hb => by
  have h : Wrote (bind (num 4) (fun m => if m = v then ret () else failM 4 (s.k : Int))) (fun _ bs => bs = leB v 4) :=
    (Wrote.bind (wrote_num 4) fun m => wrote_if (R := fun _ bs => bs = [] ∧ m = v) (fun hc => (wrote_ret ()).to fun _ _ _ h => ⟨h.2, hc⟩) fun _ => wrote_fail _ _).to fun x bs _ h => by
      obtain ⟨m, b1, b2, ⟨rfl, h1⟩, ⟨rfl, rfl⟩, rfl⟩ := h
      simp
  exact h L s hL hb
theorem wrote_pure : Wrote pureM (fun x bs => bs = leB x.1 1 ++ (leB x.2.1 2 ++ (leB (x.2.2.length : Int) 3 ++ x.2.2)) ∧ (0 ≤ x.1 ∧ x.1 ≤ 255) ∧ (0 ≤ x.2.1 ∧ x.2.1 ≤ 65535) ∧ x.2.2.length ≤ 16777215 ∧ Byts x.2.2) :=
  (Wrote.bind (wrote_num 1) fun u => Wrote.bind (wrote_num 2) fun p => Wrote.bind (wrote_data 3) fun d => wrote_ret (u, p, d)).to fun x bs _ h => by
    obtain ⟨u, b1, b2, ⟨rfl, h1, h2⟩, ⟨p, b3, b4, ⟨rfl, h3, h4⟩, ⟨d, b5, b6, ⟨rfl, h5, h6⟩, ⟨rfl, rfl⟩, rfl⟩, rfl⟩, rfl⟩ := h
    simp at h2 h4 h5
    exact ⟨by simp, by simp; omega, by simp; omega, by simp; omega, h6⟩
theorem wrote_level : Wrote levelM (fun u bs => bs = leB 1 4 ++ leB u 1 ∧ 0 ≤ u ∧ u ≤ 1) :=
  (Wrote.bind (wrote_fixed 1) fun _ => (show Wrote (fun L s1 => bind (num 1) (fun u => bind (if 1 < u then failM 4 s1.k else ret ()) fun _ => ret u) L s1) (fun u bs => bs = leB u 1 ∧ 0 ≤ u ∧ u ≤ 1) from fun L s hL hb => by
    have h : Wrote (bind (num 1) (fun u => bind (if 1 < u then failM 4 (s.k : Int) else ret ()) fun _ => ret u)) (fun u bs => bs = leB u 1 ∧ 0 ≤ u ∧ u ≤ 1) :=
      (Wrote.bind (wrote_num 1) fun u => Wrote.bind (R := fun _ bs => bs = [] ∧ ¬ 1 < u) (wrote_if (fun _ => wrote_fail _ _) fun hc => (wrote_ret ()).to fun _ _ _ h => ⟨h.2, hc⟩) fun _ => wrote_ret u).to fun x bs _ h => by
        obtain ⟨y, b1, b2, ⟨rfl, h1, h2⟩, ⟨-, b5, b6, ⟨rfl, h5⟩, ⟨rfl, rfl⟩, rfl⟩, rfl⟩ := h
        exact ⟨by simp, h1, by omega⟩
    exact h L s hL hb)).to fun x bs _ h => by
    obtain ⟨_, b1, b2, rfl, ⟨rfl, h1⟩, rfl⟩ := h
    exact ⟨rfl, h1⟩
theorem wrote_glued : Wrote gluedM (fun d bs => d = bs ∧ d.length = 9 ∧ d.take 7 = [88, 84, 97, 112, 101, 33, 26] ∧ Byts d) := fun L s hL hb => by
  unfold gluedM Rd.bind at hb ⊢
  generalize hT : take 9 L s = T at hb ⊢
  obtain ⟨D, s'⟩ := T
  simp only at hb ⊢
  cases hs : s'.bad with
  | some q => rw [hs] at hb; simp only at hb; rw [hs] at hb; cases hb
  | none =>
    have hw := wrote_take 9 L s hL (by rw [hT]; exact hs)
    rw [hT] at hw
    obtain ⟨a, bs, b, c, d, e, f⟩ := hw
    simp only at b c e
    subst e
    rw [hs] at hb
    simp only at hb ⊢
    by_cases h1 : D.take 7 = [88, 84, 97, 112, 101, 33, 26]
    · rw [if_pos h1]
      exact ⟨a, D, b, c, d, rfl, (show D.length = 9 by omega), h1, d⟩
    · rw [if_neg h1] at hb; exact (fail_none hb).elim
theorem wrote_samples (at_ : Int) : Wrote (samplesM at_) (fun x bs => bs = leB ((x.2.2.2.2.length : Int) + 10) 4 ++ (leB x.1 2 ++ (leB x.2.1 3 ++ (leB x.2.2.1 1 ++ (leB x.2.2.2.1 4 ++ x.2.2.2.2)))) ∧ (0 ≤ x.1 ∧ x.1 ≤ 65535) ∧ (0 ≤ x.2.1 ∧ x.2.1 ≤ 16777215) ∧ (0 ≤ x.2.2.1 ∧ x.2.2.1 ≤ 255) ∧ (0 ≤ x.2.2.2.1 ∧ x.2.2.2.1 ≤ 4294967295) ∧ Byts x.2.2.2.2) :=
  (Wrote.bind (wrote_num 4) fun n => Wrote.bind (wrote_num 2) fun p => Wrote.bind (wrote_num 3) fun r => Wrote.bind (wrote_num 1) fun k => Wrote.bind (wrote_num 4) fun c =>
    wrote_if (R := fun x bs => x = (p, r, k, c, bs) ∧ (bs.length : Int) = n - 10) (fun _ => (Wrote.bind (R := fun _ _ => False) (wrote_fail _ _) fun _ => wrote_ret _).to fun _ _ _ h => by obtain ⟨_, _, _, h, _⟩ := h; exact h.elim)
      fun _ => (Wrote.bind (wrote_take (n - 10)) fun d => wrote_ret (p, r, k, c, d)).to fun x bs _ h => by obtain ⟨d, b1, b2, ⟨rfl, h1⟩, ⟨rfl, rfl⟩, rfl⟩ := h; rw [List.append_nil]; exact ⟨rfl, h1⟩).to fun x bs hbs h => by
    obtain ⟨n, b1, c1, ⟨rfl, h1, h2⟩, ⟨p, b2, c2, ⟨rfl, h3, h4⟩, ⟨r, b3, c3, ⟨rfl, h5, h6⟩, ⟨k, b4, c4, ⟨rfl, h7, h8⟩, ⟨c, b5, c5, ⟨rfl, h9, h10⟩, ⟨rfl, h11⟩, rfl⟩, rfl⟩, rfl⟩, rfl⟩, rfl⟩ := h
    simp at h2 h4 h6 h8 h10
    refine ⟨by simp only; rw [show (c5.length : Int) + 10 = n by omega], by simp only; omega, by simp only; omega, by simp only; omega, by simp only; omega, fun y hy => hbs y (by simp at hy ⊢; simp [hy])⟩
end Rd
end Go.Proofs.Ytokidpajialgbaa
namespace Go.Proofs.Ytokidpajialgbaa
set_option linter.unusedSimpArgs false
set_option linter.unusedVariables false
theorem wf64 {x : Int} (h : -4294967296 ≤ x ∧ x ≤ 4294967296) : (Lit.int .i64 x).wf = true := by simp [Lit.wf, IntKind.min, IntKind.max, IntKind.bits, IntKind.signed]; omega
theorem wf8 {l : List Int} (h : Byts l) : ∀ x ∈ l, (Lit.int .u8 x).wf = true := fun x hx => by
  have := h x hx
  simp [Lit.wf, IntKind.min, IntKind.max, IntKind.bits, IntKind.signed]
  omega
theorem symsB_wf {many p : Int} {l : List (Int × List Int)} (h : symsB many p l = true) : ∀ x ∈ l, (Lit.int .i64 x.1).wf = true ∧ ∀ y ∈ x.2, (Lit.int .i64 y).wf = true := fun x hx => by
  unfold symsB at h
  rw [Bool.and_eq_true] at h
  obtain ⟨a, b, c⟩ := Rd.symB_spec (List.all_eq_true.1 h.2 x hx)
  exact ⟨wf64 (by omega), fun y hy => wf64 (by have := c y hy; omega)⟩
theorem repsB_wf {m : Int} {l : List (Int × Int)} (hm : m ≤ 256) (h : l.all (repB m) = true) : ∀ x ∈ l, (Lit.int .i64 x.1).wf = true ∧ (Lit.int .i64 x.2).wf = true := fun x hx => by
  have h1 := List.all_eq_true.1 h x hx
  unfold repB at h1
  rw [Bool.and_eq_true] at h1
  have := fit_one h1.1; have := fit_one h1.2
  exact ⟨wf64 (by omega), wf64 (by omega)⟩
namespace Rd
theorem wrote_genA (ma pi sy : Int) : Wrote (genA ma pi sy) (fun r bs => 0 ≤ ma → (0 ≤ sy ∧ sy ≤ 255) → bs = symsL r.1 ++ repsL r.2 ∧ (r.2.length : Int) = ma ∧ (if r.2.length = 0 then decide (r.1.length = 0) else symsB (manyN sy) pi r.1) = true ∧ r.2.all (repB (manyN sy)) = true) := by
  unfold genA
  refine wrote_if (fun hm => ?_) fun hm => ?_
  · refine (Wrote.bind (wrote_loop (wrote_sym pi) (manyN sy).toNat) fun p => Wrote.bind (wrote_reps ma.toNat (manyN sy)) fun r => wrote_ret (p, r)).to fun x bs _ h h0 hs => ?_
    have hmm := manyN_le hs
    obtain ⟨p, b1, b2, ⟨rfl, h1, h2⟩, ⟨r, b3, b4, ⟨rfl, h3, h4⟩, ⟨rfl, rfl⟩, rfl⟩, rfl⟩ := h
    refine ⟨by simp [symsL], by simp only; omega, ?_, h4⟩
    simp only
    rw [if_neg (by omega)]
    unfold symsB
    rw [Bool.and_eq_true]
    exact ⟨by simp; omega, List.all_eq_true.2 h2⟩
  · refine (wrote_ret _).to fun x bs _ h h0 hs => ?_
    obtain ⟨rfl, rfl⟩ := h
    exact ⟨rfl, by simp; omega, rfl, rfl⟩
theorem wrote_genB (co ze on : Int) : Wrote (genB co ze on) (fun r bs => 0 ≤ co → (0 ≤ on ∧ on ≤ 255) → bs = symsL r.1 ++ r.2 ∧ Byts r.2 ∧ (if co = 0 then (decide (r.1.length = 0) && decide (r.2.length = 0)) else (symsB (manyN on) ze r.1 && streamB r.2 (manyN on) co)) = true) := by
  unfold genB
  refine wrote_if (fun hm => ?_) fun hm => ?_
  · refine (Wrote.bind (wrote_loop (wrote_sym ze) (manyN on).toNat) fun p => Wrote.bind (wrote_stream co.toNat (manyN on)) fun r => wrote_ret (p, r)).to fun x bs _ h h0 hs => ?_
    have hmm := manyN_le hs
    obtain ⟨p, b1, b2, ⟨rfl, h1, h2⟩, ⟨r, b3, b4, ⟨rfl, h3, h4⟩, ⟨rfl, rfl⟩, rfl⟩, rfl⟩ := h
    rw [Int.toNat_of_nonneg h0] at h3
    refine ⟨by simp [symsL], h4, ?_⟩
    rw [if_neg (by omega)]
    simp only
    rw [h3, Bool.and_true]
    unfold symsB
    rw [Bool.and_eq_true]
    exact ⟨by simp; omega, List.all_eq_true.2 h2⟩
  · refine (wrote_ret _).to fun x bs _ h h0 hs => ?_
    obtain ⟨rfl, rfl⟩ := h
    exact ⟨rfl, fun _ h => by simp at h, by rw [if_pos (by omega)]; rfl⟩
def genTB (g : Gen) : TB := { id := 25, pause := g.pa, pilot := g.pi, sync1 := g.sy, count := g.co, zero := g.ze, one := g.on, pilots := g.pil, syms := g.syl, reps := g.rl, data := g.dat }
theorem wrote_genBody : Wrote genBody (fun g bs => bs = genL (genTB g) ∧ ((0 ≤ g.pa ∧ g.pa ≤ 65535) ∧ (0 ≤ g.pi ∧ g.pi ≤ 255) ∧ (0 ≤ g.sy ∧ g.sy ≤ 255) ∧ (0 ≤ g.co ∧ g.co ≤ 4294967295) ∧ (0 ≤ g.ze ∧ g.ze ≤ 255) ∧ (0 ≤ g.on ∧ g.on ≤ 255)) ∧ genPilotsB (genTB g) = true ∧ g.rl.all (repB (manyN g.sy)) = true ∧ genSymsB (genTB g) = true ∧ Byts g.dat) := by
  unfold genBody
  refine (Wrote.bind (wrote_num 2) fun pa => Wrote.bind (wrote_num 4) fun ma => Wrote.bind (wrote_num 1) fun pi => Wrote.bind (wrote_num 1) fun sy => Wrote.bind (wrote_num 4) fun co => Wrote.bind (wrote_num 1) fun ze => Wrote.bind (wrote_num 1) fun on =>
      Wrote.bind (wrote_genA ma pi sy) fun a => Wrote.bind (wrote_genB co ze on) fun b => wrote_ret _).to fun g bs _ h => ?_
  obtain ⟨pa, b1, c1, ⟨rfl, p1, p2⟩, ⟨ma, b2, c2, ⟨rfl, m1, m2⟩, ⟨pi, b3, c3, ⟨rfl, q1, q2⟩, ⟨sy, b4, c4, ⟨rfl, s1, s2⟩, ⟨co, b5, c5, ⟨rfl, o1, o2⟩, ⟨ze, b6, c6, ⟨rfl, z1, z2⟩, ⟨on, b7, c7, ⟨rfl, n1, n2⟩, ⟨a, b8, c8, ha, ⟨b, b9, c9, hb, ⟨rfl, rfl⟩, rfl⟩, rfl⟩, rfl⟩, rfl⟩, rfl⟩, rfl⟩, rfl⟩, rfl⟩, rfl⟩ := h
  simp at p2 m2 q2 s2 o2 z2 n2
  obtain ⟨rfl, a2, a3, a4⟩ := ha m1 ⟨s1, by omega⟩
  obtain ⟨rfl, e2, e3⟩ := hb o1 ⟨n1, by omega⟩
  refine ⟨?_, ⟨⟨p1, by simp only; omega⟩, ⟨q1, by simp only; omega⟩, ⟨s1, by simp only; omega⟩, ⟨o1, by simp only; omega⟩, ⟨z1, by simp only; omega⟩, n1, by simp only; omega⟩, a3, a4, e3, e2⟩
  unfold genL genTB
  simp only
  rw [a2]
  simp [leL, List.append_assoc]
theorem wrote_general (at_ : Int) : Wrote (generalM at_) (fun g bs => bs = leB ((genL (genTB g)).length : Int) 4 ++ genL (genTB g) ∧ (((0 ≤ g.pa ∧ g.pa ≤ 65535) ∧ (0 ≤ g.pi ∧ g.pi ≤ 255) ∧ (0 ≤ g.sy ∧ g.sy ≤ 255) ∧ (0 ≤ g.co ∧ g.co ≤ 4294967295) ∧ (0 ≤ g.ze ∧ g.ze ≤ 255) ∧ (0 ≤ g.on ∧ g.on ≤ 255)) ∧ genPilotsB (genTB g) = true ∧ g.rl.all (repB (manyN g.sy)) = true ∧ genSymsB (genTB g) = true ∧ Byts g.dat)) := by
  rw [generalM_eq]
  refine (Wrote.bind (wrote_num 4) fun q => wrote_check q at_ wrote_genBody).to fun g bs _ h => ?_
  obtain ⟨n, b1, b2, ⟨rfl, h1, h2⟩, ⟨⟨rfl, h3⟩, h5⟩, rfl⟩ := h
  exact ⟨by rw [h5], h3⟩
end Rd
end Go.Proofs.Ytokidpajialgbaa
namespace Go.Proofs.Ytokidpajialgbaa
set_option linter.unusedSimpArgs false
set_option linter.unusedVariables false
namespace Rd
/-- a block that was read: it may be, and was written so -/
def BodyR (k : Int) (B : TB) (bs : List Int) : Prop := B.id = k ∧ bs = tailL B ∧ (bs.length ≤ 1048576 → mayB B = true) ∧ BWf B
theorem noWf {α : Type} {P : α → Prop} : ∀ x ∈ ([] : List α), P x := fun x h => by simp at h
theorem itemsN_40 (l : List (Int × List Int)) : (itemsL 2 l).length = itemsN 40 l := by rw [itemsL_len2]; unfold itemsN; rw [show (fun x : Int × List Int => x.2.length + (2 + 1)) = itemN 40 from funext fun x => by simp [itemN]]
theorem itemsN_50 (l : List (Int × List Int)) : (itemsL 1 l).length = itemsN 50 l := by rw [itemsL_len2]; unfold itemsN; rw [show (fun x : Int × List Int => x.2.length + (1 + 1)) = itemN 50 from funext fun x => by simp [itemN]]
theorem may_items40 {l : List (Int × List Int)} (h1 : l.length ≤ 255) (h2 : (itemsL 2 l).length ≤ 65535) (h3 : ∀ x ∈ l, (-32768 ≤ x.1 ∧ x.1 < 32768) ∧ x.2.length ≤ 255 ∧ Byts x.2) : mayB { id := 40, items := l } = true := by
  have h4 : itemsB 40 l = true := by
    unfold itemsB
    rw [itemsN_40] at h2
    simp only [Bool.and_eq_true, List.all_eq_true, decide_eq_true_eq]
    refine ⟨by simp [fitS]; omega, fun x hx => ?_, by omega⟩
    have := h3 x hx
    simp [itemB, fitS, stepS]; omega
  simp [mayB, sndB, othB, TB.rest, h4]; simp [fitS]
theorem may_items50 {l : List (Int × List Int)} (h1 : l.length ≤ 255) (h2 : (itemsL 1 l).length ≤ 65535) (h3 : ∀ x ∈ l, (0 ≤ x.1 ∧ x.1 < 256 ^ 1) ∧ x.2.length ≤ 255 ∧ Byts x.2) : mayB { id := 50, items := l } = true := by
  have h4 : itemsB 50 l = true := by
    unfold itemsB
    rw [itemsN_50] at h2
    simp only [Bool.and_eq_true, List.all_eq_true, decide_eq_true_eq]
    refine ⟨by simp [fitS]; omega, fun x hx => ?_, by omega⟩
    have := h3 x hx
    simp at this
    simp [itemB, fitS]; omega
  simp [mayB, sndB, othB, TB.rest, h4]; simp [fitS]
theorem may_general {g : Gen} (p : (0 ≤ g.pa ∧ g.pa ≤ 65535) ∧ (0 ≤ g.pi ∧ g.pi ≤ 255) ∧ (0 ≤ g.sy ∧ g.sy ≤ 255) ∧ (0 ≤ g.co ∧ g.co ≤ 4294967295) ∧ (0 ≤ g.ze ∧ g.ze ≤ 255) ∧ (0 ≤ g.on ∧ g.on ≤ 255)) (q : genPilotsB (genTB g) = true) (r : g.rl.all (repB (manyN g.sy)) = true) (t : genSymsB (genTB g) = true) (h : (leB ((genL (genTB g)).length : Int) 4 ++ genL (genTB g)).length ≤ 1048576) : mayB (genTB g) = true := by
  have hl : g.rl.length ≤ 1048576 ∧ g.dat.length ≤ 1048576 := by
    rw [List.length_append] at h
    unfold genL genTB at h
    simp only [List.length_append, leL_len, leB_len, List.length_cons, List.length_nil, repsL_len] at h
    omega
  have hh : genHeadB (genTB g) = true := by
    simp [genHeadB, fitS, genTB]; omega
  have h4 : generalB (genTB g) = true := by
    unfold generalB
    simp only [Bool.and_eq_true]
    exact ⟨hh, q, r, t⟩
  have h5 : sndB (genTB g) = (generalB (genTB g), { genTB g with id := 0, pause := 0, pilot := 0, sync1 := 0, zero := 0, one := 0, count := 0, data := [], pilots := [], syms := [], reps := [] }) := by simp only [sndB]; simp [genTB]
  unfold mayB
  rw [h5, h4]
  simp [genTB, TB.rest, fitS]
theorem gen_pilots_wf {g : Gen} (q : genPilotsB (genTB g) = true) : ∀ x ∈ g.pil, (Lit.int .i64 x.1).wf = true ∧ ∀ y ∈ x.2, (Lit.int .i64 y).wf = true := by
  unfold genPilotsB at q
  split at q
  · have e : g.pil = [] := List.eq_nil_of_length_eq_zero (by simpa [genTB] using q)
    rw [e]; exact noWf
  · exact symsB_wf q
theorem gen_syms_wf {g : Gen} (q : genSymsB (genTB g) = true) : ∀ x ∈ g.syl, (Lit.int .i64 x.1).wf = true ∧ ∀ y ∈ x.2, (Lit.int .i64 y).wf = true := by
  unfold genSymsB at q
  split at q
  · have e : g.syl = [] := List.eq_nil_of_length_eq_zero (by rw [Bool.and_eq_true] at q; simpa [genTB] using q.1)
    rw [e]; exact noWf
  · rw [Bool.and_eq_true] at q; exact symsB_wf q.1
theorem nums_wf {B : TB} (h : ∀ x ∈ B.nums, -4294967296 ≤ x ∧ x ≤ 4294967296) : ∀ x ∈ B.nums, (Lit.int .i64 x).wf = true := fun x hx => wf64 (h x hx)
theorem wrote_body_16 (at_ : Int) : Wrote (bodyM 16 at_) (BodyR 16) := by
  rw [show bodyM 16 at_ = bind (num 2) fun x1 => bind (dataM 2) fun x2 => ret ({ id := 16, pause := x1, data := x2 } : TB) by simp [bodyM, soundM, leadsM, tellsM]]
  refine (Wrote.bind (wrote_num 2) fun x1 => Wrote.bind (wrote_data 2) fun x2 => wrote_ret _).to fun B bs hbs h => ?_
  obtain ⟨x1, b1, c1, ⟨rfl, p1, q1⟩, ⟨x2, b2, c2, ⟨rfl, p2, q2⟩, ⟨rfl, rfl⟩, rfl⟩, rfl⟩ := h
  have q1_ : x1 < 65536 := by simpa using q1
  have p2_ : (x2.length : Int) < 65536 := by simpa using p2
  refine ⟨rfl, ?_, ?_, ⟨nums_wf (by simp only [TB.nums, List.mem_cons, List.not_mem_nil, or_false, forall_eq_or_imp, forall_eq]; omega), wf8 q2, noWf, noWf, noWf, noWf, noWf⟩⟩
  · simp [tailL, isSnd, sndL, leL]
  · intro hlen; simp [mayB, sndB, othB, fitS, TB.rest]; omega
theorem wrote_body_17 (at_ : Int) : Wrote (bodyM 17 at_) (BodyR 17) := by
  rw [show bodyM 17 at_ = bind (num 2) fun x1 => bind (num 2) fun x2 => bind (num 2) fun x3 => bind (num 2) fun x4 => bind (num 2) fun x5 => bind (num 2) fun x6 => bind pureM fun x7 => ret ({ id := 17, pilot := x1, sync1 := x2, sync2 := x3, zero := x4, one := x5, count := x6, used := x7.1, pause := x7.2.1, data := x7.2.2 } : TB) by simp [bodyM, soundM, leadsM, tellsM]]
  refine (Wrote.bind (wrote_num 2) fun x1 => Wrote.bind (wrote_num 2) fun x2 => Wrote.bind (wrote_num 2) fun x3 => Wrote.bind (wrote_num 2) fun x4 => Wrote.bind (wrote_num 2) fun x5 => Wrote.bind (wrote_num 2) fun x6 => Wrote.bind (wrote_pure) fun x7 => wrote_ret _).to fun B bs hbs h => ?_
  obtain ⟨x1, b1, c1, ⟨rfl, p1, q1⟩, ⟨x2, b2, c2, ⟨rfl, p2, q2⟩, ⟨x3, b3, c3, ⟨rfl, p3, q3⟩, ⟨x4, b4, c4, ⟨rfl, p4, q4⟩, ⟨x5, b5, c5, ⟨rfl, p5, q5⟩, ⟨x6, b6, c6, ⟨rfl, p6, q6⟩, ⟨x7, b7, c7, ⟨rfl, p7, q7, r7, t7⟩, ⟨rfl, rfl⟩, rfl⟩, rfl⟩, rfl⟩, rfl⟩, rfl⟩, rfl⟩, rfl⟩ := h
  have q1_ : x1 < 65536 := by simpa using q1
  have q2_ : x2 < 65536 := by simpa using q2
  have q3_ : x3 < 65536 := by simpa using q3
  have q4_ : x4 < 65536 := by simpa using q4
  have q5_ : x5 < 65536 := by simpa using q5
  have q6_ : x6 < 65536 := by simpa using q6
  refine ⟨rfl, ?_, ?_, ⟨nums_wf (by simp only [TB.nums, List.mem_cons, List.not_mem_nil, or_false, forall_eq_or_imp, forall_eq]; omega), wf8 t7, noWf, noWf, noWf, noWf, noWf⟩⟩
  · simp [tailL, isSnd, sndL, leL]
  · intro hlen; simp [mayB, sndB, othB, fitS, TB.rest]; omega
theorem wrote_body_18 (at_ : Int) : Wrote (bodyM 18 at_) (BodyR 18) := by
  rw [show bodyM 18 at_ = bind (num 2) fun x1 => bind (num 2) fun x2 => ret ({ id := 18, tone := x1, count := x2 } : TB) by simp [bodyM, soundM, leadsM, tellsM]]
  refine (Wrote.bind (wrote_num 2) fun x1 => Wrote.bind (wrote_num 2) fun x2 => wrote_ret _).to fun B bs hbs h => ?_
  obtain ⟨x1, b1, c1, ⟨rfl, p1, q1⟩, ⟨x2, b2, c2, ⟨rfl, p2, q2⟩, ⟨rfl, rfl⟩, rfl⟩, rfl⟩ := h
  have q1_ : x1 < 65536 := by simpa using q1
  have q2_ : x2 < 65536 := by simpa using q2
  refine ⟨rfl, ?_, ?_, ⟨nums_wf (by simp only [TB.nums, List.mem_cons, List.not_mem_nil, or_false, forall_eq_or_imp, forall_eq]; omega), noWf, noWf, noWf, noWf, noWf, noWf⟩⟩
  · simp [tailL, isSnd, sndL, leL]
  · intro hlen; simp [mayB, sndB, othB, fitS, TB.rest]; omega
theorem wrote_body_19 (at_ : Int) : Wrote (bodyM 19 at_) (BodyR 19) := by
  rw [show bodyM 19 at_ = bind (num 1) fun x1 => bind (numbers x1 2) fun x2 => ret ({ id := 19, times := x2 } : TB) by simp [bodyM, soundM, leadsM, tellsM]]
  refine (Wrote.bind (wrote_num 1) fun x1 => Wrote.bind (wrote_numbers x1 2) fun x2 => wrote_ret _).to fun B bs hbs h => ?_
  obtain ⟨x1, b1, c1, ⟨rfl, p1, q1⟩, ⟨x2, b2, c2, ⟨rfl, rfl, q2⟩, ⟨rfl, rfl⟩, rfl⟩, rfl⟩ := h
  have q1_ : (x2.length : Int) < 256 := by simpa using q1
  have q2_ : ∀ y ∈ x2, 0 ≤ y ∧ y ≤ 65535 := fun y hy => by have := q2 y hy; simp at this; omega
  refine ⟨rfl, ?_, ?_, ⟨nums_wf (by simp only [TB.nums, List.mem_cons, List.not_mem_nil, or_false, forall_eq_or_imp, forall_eq]; omega), noWf, fun y hy => wf64 (by have := q2_ y hy; omega), noWf, noWf, noWf, noWf⟩⟩
  · simp [tailL, isSnd, sndL, leL]
  · intro hlen; simp [mayB, sndB, othB, fitS, TB.rest]; exact ⟨by omega, fun y hy => by have := q2_ y hy; omega⟩
theorem wrote_body_20 (at_ : Int) : Wrote (bodyM 20 at_) (BodyR 20) := by
  rw [show bodyM 20 at_ = bind (num 2) fun x1 => bind (num 2) fun x2 => bind pureM fun x3 => ret ({ id := 20, zero := x1, one := x2, used := x3.1, pause := x3.2.1, data := x3.2.2 } : TB) by simp [bodyM, soundM, leadsM, tellsM]]
  refine (Wrote.bind (wrote_num 2) fun x1 => Wrote.bind (wrote_num 2) fun x2 => Wrote.bind (wrote_pure) fun x3 => wrote_ret _).to fun B bs hbs h => ?_
  obtain ⟨x1, b1, c1, ⟨rfl, p1, q1⟩, ⟨x2, b2, c2, ⟨rfl, p2, q2⟩, ⟨x3, b3, c3, ⟨rfl, p3, q3, r3, t3⟩, ⟨rfl, rfl⟩, rfl⟩, rfl⟩, rfl⟩ := h
  have q1_ : x1 < 65536 := by simpa using q1
  have q2_ : x2 < 65536 := by simpa using q2
  refine ⟨rfl, ?_, ?_, ⟨nums_wf (by simp only [TB.nums, List.mem_cons, List.not_mem_nil, or_false, forall_eq_or_imp, forall_eq]; omega), wf8 t3, noWf, noWf, noWf, noWf, noWf⟩⟩
  · simp [tailL, isSnd, sndL, leL]
  · intro hlen; simp [mayB, sndB, othB, fitS, TB.rest]; omega
theorem wrote_body_21 (at_ : Int) : Wrote (bodyM 21 at_) (BodyR 21) := by
  rw [show bodyM 21 at_ = bind (num 2) fun x1 => bind (num 2) fun x2 => bind (num 1) fun x3 => bind (dataM 3) fun x4 => ret ({ id := 21, rate := x1, pause := x2, used := x3, data := x4 } : TB) by simp [bodyM, soundM, leadsM, tellsM]]
  refine (Wrote.bind (wrote_num 2) fun x1 => Wrote.bind (wrote_num 2) fun x2 => Wrote.bind (wrote_num 1) fun x3 => Wrote.bind (wrote_data 3) fun x4 => wrote_ret _).to fun B bs hbs h => ?_
  obtain ⟨x1, b1, c1, ⟨rfl, p1, q1⟩, ⟨x2, b2, c2, ⟨rfl, p2, q2⟩, ⟨x3, b3, c3, ⟨rfl, p3, q3⟩, ⟨x4, b4, c4, ⟨rfl, p4, q4⟩, ⟨rfl, rfl⟩, rfl⟩, rfl⟩, rfl⟩, rfl⟩ := h
  have q1_ : x1 < 65536 := by simpa using q1
  have q2_ : x2 < 65536 := by simpa using q2
  have q3_ : x3 < 256 := by simpa using q3
  have p4_ : (x4.length : Int) < 16777216 := by simpa using p4
  refine ⟨rfl, ?_, ?_, ⟨nums_wf (by simp only [TB.nums, List.mem_cons, List.not_mem_nil, or_false, forall_eq_or_imp, forall_eq]; omega), wf8 q4, noWf, noWf, noWf, noWf, noWf⟩⟩
  · simp [tailL, isSnd, sndL, leL]
  · intro hlen; simp [mayB, sndB, othB, fitS, TB.rest]; omega
theorem wrote_body_24 (at_ : Int) : Wrote (bodyM 24 at_) (BodyR 24) := by
  rw [show bodyM 24 at_ = bind (samplesM at_) fun x1 => ret ({ id := 24, pause := x1.1, rate := x1.2.1, pack := x1.2.2.1, count := x1.2.2.2.1, data := x1.2.2.2.2 } : TB) by simp [bodyM, soundM, leadsM, tellsM]]
  refine (Wrote.bind (wrote_samples at_) fun x1 => wrote_ret _).to fun B bs hbs h => ?_
  obtain ⟨x1, b1, c1, ⟨rfl, p1, q1, r1, t1, u1⟩, ⟨rfl, rfl⟩, rfl⟩ := h
  refine ⟨rfl, ?_, ?_, ⟨nums_wf (by simp only [TB.nums, List.mem_cons, List.not_mem_nil, or_false, forall_eq_or_imp, forall_eq]; omega), wf8 u1, noWf, noWf, noWf, noWf, noWf⟩⟩
  · simp [tailL, isSnd, sndL, leL]
  · intro hlen; simp [leB_len] at hlen; simp [mayB, sndB, othB, fitS, TB.rest]; omega
theorem wrote_body_25 (at_ : Int) : Wrote (bodyM 25 at_) (BodyR 25) := by
  rw [show bodyM 25 at_ = bind (generalM at_) fun x1 => ret ({ id := 25, pause := x1.pa, pilot := x1.pi, sync1 := x1.sy, count := x1.co, zero := x1.ze, one := x1.on, pilots := x1.pil, syms := x1.syl, reps := x1.rl, data := x1.dat } : TB) by simp [bodyM, soundM, leadsM, tellsM]]
  refine (Wrote.bind (wrote_general at_) fun x1 => wrote_ret _).to fun B bs hbs h => ?_
  obtain ⟨x1, b1, c1, ⟨rfl, p1, q1, r1, t1, u1⟩, ⟨rfl, rfl⟩, rfl⟩ := h
  refine ⟨rfl, ?_, ?_, ⟨nums_wf (by simp only [TB.nums, List.mem_cons, List.not_mem_nil, or_false, forall_eq_or_imp, forall_eq]; omega), wf8 u1, noWf, noWf, gen_pilots_wf q1, gen_syms_wf t1, repsB_wf (manyN_le p1.2.2.1).2 r1⟩⟩
  · simp only [List.append_nil]; rfl
  · intro hlen; rw [List.append_nil] at hlen; exact may_general p1 q1 r1 t1 hlen
theorem wrote_body_32 (at_ : Int) : Wrote (bodyM 32 at_) (BodyR 32) := by
  rw [show bodyM 32 at_ = bind (num 2) fun x1 => ret ({ id := 32, pause := x1 } : TB) by simp [bodyM, soundM, leadsM, tellsM]]
  refine (Wrote.bind (wrote_num 2) fun x1 => wrote_ret _).to fun B bs hbs h => ?_
  obtain ⟨x1, b1, c1, ⟨rfl, p1, q1⟩, ⟨rfl, rfl⟩, rfl⟩ := h
  have q1_ : x1 < 65536 := by simpa using q1
  refine ⟨rfl, ?_, ?_, ⟨nums_wf (by simp only [TB.nums, List.mem_cons, List.not_mem_nil, or_false, forall_eq_or_imp, forall_eq]; omega), noWf, noWf, noWf, noWf, noWf, noWf⟩⟩
  · simp [tailL, isSnd, sndL, leL]
  · intro hlen; simp [mayB, sndB, othB, fitS, TB.rest]; omega
theorem wrote_body_34 (at_ : Int) : Wrote (bodyM 34 at_) (BodyR 34) := by
  rw [show bodyM 34 at_ = ret ({ id := 34 } : TB) by simp [bodyM, soundM, leadsM, tellsM]]
  refine (wrote_ret _).to fun B bs hbs h => ?_
  obtain ⟨rfl, rfl⟩ := h
  refine ⟨rfl, ?_, ?_, ⟨nums_wf (by simp only [TB.nums, List.mem_cons, List.not_mem_nil, or_false, forall_eq_or_imp, forall_eq]; omega), noWf, noWf, noWf, noWf, noWf, noWf⟩⟩
  · simp [tailL, isSnd, telL, leL]
  · intro hlen; rfl
theorem wrote_body_37 (at_ : Int) : Wrote (bodyM 37 at_) (BodyR 37) := by
  rw [show bodyM 37 at_ = ret ({ id := 37 } : TB) by simp [bodyM, soundM, leadsM, tellsM]]
  refine (wrote_ret _).to fun B bs hbs h => ?_
  obtain ⟨rfl, rfl⟩ := h
  refine ⟨rfl, ?_, ?_, ⟨nums_wf (by simp only [TB.nums, List.mem_cons, List.not_mem_nil, or_false, forall_eq_or_imp, forall_eq]; omega), noWf, noWf, noWf, noWf, noWf, noWf⟩⟩
  · simp [tailL, isSnd, telL, leL]
  · intro hlen; rfl
theorem wrote_body_39 (at_ : Int) : Wrote (bodyM 39 at_) (BodyR 39) := by
  rw [show bodyM 39 at_ = ret ({ id := 39 } : TB) by simp [bodyM, soundM, leadsM, tellsM]]
  refine (wrote_ret _).to fun B bs hbs h => ?_
  obtain ⟨rfl, rfl⟩ := h
  refine ⟨rfl, ?_, ?_, ⟨nums_wf (by simp only [TB.nums, List.mem_cons, List.not_mem_nil, or_false, forall_eq_or_imp, forall_eq]; omega), noWf, noWf, noWf, noWf, noWf, noWf⟩⟩
  · simp [tailL, isSnd, telL, leL]
  · intro hlen; rfl
theorem wrote_body_33 (at_ : Int) : Wrote (bodyM 33 at_) (BodyR 33) := by
  rw [show bodyM 33 at_ = bind (dataM 1) fun x1 => ret ({ id := 33, data := x1 } : TB) by simp [bodyM, soundM, leadsM, tellsM]]
  refine (Wrote.bind (wrote_data 1) fun x1 => wrote_ret _).to fun B bs hbs h => ?_
  obtain ⟨x1, b1, c1, ⟨rfl, p1, q1⟩, ⟨rfl, rfl⟩, rfl⟩ := h
  have p1_ : (x1.length : Int) < 256 := by simpa using p1
  refine ⟨rfl, ?_, ?_, ⟨nums_wf (by simp only [TB.nums, List.mem_cons, List.not_mem_nil, or_false, forall_eq_or_imp, forall_eq]; omega), wf8 q1, noWf, noWf, noWf, noWf, noWf⟩⟩
  · simp [tailL, isSnd, telL, leL]
  · intro hlen; simp [mayB, sndB, othB, fitS, TB.rest]; omega
theorem wrote_body_48 (at_ : Int) : Wrote (bodyM 48 at_) (BodyR 48) := by
  rw [show bodyM 48 at_ = bind (dataM 1) fun x1 => ret ({ id := 48, data := x1 } : TB) by simp [bodyM, soundM, leadsM, tellsM]]
  refine (Wrote.bind (wrote_data 1) fun x1 => wrote_ret _).to fun B bs hbs h => ?_
  obtain ⟨x1, b1, c1, ⟨rfl, p1, q1⟩, ⟨rfl, rfl⟩, rfl⟩ := h
  have p1_ : (x1.length : Int) < 256 := by simpa using p1
  refine ⟨rfl, ?_, ?_, ⟨nums_wf (by simp only [TB.nums, List.mem_cons, List.not_mem_nil, or_false, forall_eq_or_imp, forall_eq]; omega), wf8 q1, noWf, noWf, noWf, noWf, noWf⟩⟩
  · simp [tailL, isSnd, telL, leL]
  · intro hlen; simp [mayB, sndB, othB, fitS, TB.rest]; omega
theorem wrote_body_35 (at_ : Int) : Wrote (bodyM 35 at_) (BodyR 35) := by
  rw [show bodyM 35 at_ = bind (signedM 1) fun x1 => ret ({ id := 35, times := x1 } : TB) by simp [bodyM, soundM, leadsM, tellsM]]
  refine (Wrote.bind (wrote_loop (g := fun x => leB x 2) (Q := fun x => -32768 ≤ x ∧ x < 32768) wrote_signed _) fun x1 => wrote_ret _).to fun B bs hbs h => ?_
  obtain ⟨x1, b1, c1, ⟨rfl, p1, q1⟩, ⟨rfl, rfl⟩, rfl⟩ := h
  refine ⟨rfl, ?_, ?_, ⟨nums_wf (by simp only [TB.nums, List.mem_cons, List.not_mem_nil, or_false, forall_eq_or_imp, forall_eq]; omega), noWf, fun y hy => wf64 (by have := q1 y hy; omega), noWf, noWf, noWf, noWf⟩⟩
  · simp [tailL, isSnd, telL, leL]
  · intro hlen; simp [mayB, sndB, othB, fitS, stepS, TB.rest]; exact ⟨by omega, fun y hy => by have := q1 y hy; omega⟩
theorem wrote_body_36 (at_ : Int) : Wrote (bodyM 36 at_) (BodyR 36) := by
  rw [show bodyM 36 at_ = bind (num 2) fun x1 => ret ({ id := 36, count := x1 } : TB) by simp [bodyM, soundM, leadsM, tellsM]]
  refine (Wrote.bind (wrote_num 2) fun x1 => wrote_ret _).to fun B bs hbs h => ?_
  obtain ⟨x1, b1, c1, ⟨rfl, p1, q1⟩, ⟨rfl, rfl⟩, rfl⟩ := h
  have q1_ : x1 < 65536 := by simpa using q1
  refine ⟨rfl, ?_, ?_, ⟨nums_wf (by simp only [TB.nums, List.mem_cons, List.not_mem_nil, or_false, forall_eq_or_imp, forall_eq]; omega), noWf, noWf, noWf, noWf, noWf, noWf⟩⟩
  · simp [tailL, isSnd, telL, leL]
  · intro hlen; simp [mayB, sndB, othB, fitS, TB.rest]; omega
theorem wrote_body_38 (at_ : Int) : Wrote (bodyM 38 at_) (BodyR 38) := by
  rw [show bodyM 38 at_ = bind (num 2) fun x1 => bind (signedM x1.toNat) fun x2 => ret ({ id := 38, times := x2 } : TB) by simp [bodyM, soundM, leadsM, tellsM]]
  refine (Wrote.bind (wrote_num 2) fun x1 => Wrote.bind (wrote_loop (g := fun x => leB x 2) (Q := fun x => -32768 ≤ x ∧ x < 32768) wrote_signed _) fun x2 => wrote_ret _).to fun B bs hbs h => ?_
  obtain ⟨x1, b1, c1, ⟨rfl, p1, q1⟩, ⟨x2, b2, c2, ⟨rfl, p2, q2⟩, ⟨rfl, rfl⟩, rfl⟩, rfl⟩ := h
  have q1_ : x1 < 65536 := by simpa using q1
  obtain rfl : x1 = (x2.length : Int) := by omega
  refine ⟨rfl, ?_, ?_, ⟨nums_wf (by simp only [TB.nums, List.mem_cons, List.not_mem_nil, or_false, forall_eq_or_imp, forall_eq]; omega), noWf, fun y hy => wf64 (by have := q2 y hy; omega), noWf, noWf, noWf, noWf⟩⟩
  · simp [tailL, isSnd, telL, leL]
  · intro hlen; simp [mayB, sndB, othB, fitS, stepS, TB.rest]; exact ⟨by omega, fun y hy => by have := q2 y hy; omega⟩
theorem wrote_body_40 (at_ : Int) : Wrote (bodyM 40 at_) (BodyR 40) := by
  rw [show bodyM 40 at_ = bind (itemsM signed at_) fun x1 => ret ({ id := 40, items := x1 } : TB) by simp [bodyM, soundM, leadsM, tellsM]]
  refine (Wrote.bind (wrote_items (K := 2) at_ wrote_signed) fun x1 => wrote_ret _).to fun B bs hbs h => ?_
  obtain ⟨x1, b1, c1, ⟨rfl, p1, q1, r1⟩, ⟨rfl, rfl⟩, rfl⟩ := h
  refine ⟨rfl, ?_, ?_, ⟨nums_wf (by simp only [TB.nums, List.mem_cons, List.not_mem_nil, or_false, forall_eq_or_imp, forall_eq]; omega), noWf, noWf, fun y hy => ⟨wf64 (by have := (r1 y hy).1; omega), wf8 (r1 y hy).2.2⟩, noWf, noWf, noWf⟩⟩
  · simp [tailL, isSnd, telL, leL]
  · intro hlen; exact may_items40 p1 q1 r1
theorem wrote_body_42 (at_ : Int) : Wrote (bodyM 42 at_) (BodyR 42) := by
  rw [show bodyM 42 at_ = bind (fixed 0) fun x1 => ret ({ id := 42 } : TB) by simp [bodyM, soundM, leadsM, tellsM]]
  refine (Wrote.bind (wrote_fixed 0) fun x1 => wrote_ret _).to fun B bs hbs h => ?_
  obtain ⟨x1, b1, c1, rfl, ⟨rfl, rfl⟩, rfl⟩ := h
  refine ⟨rfl, ?_, ?_, ⟨nums_wf (by simp only [TB.nums, List.mem_cons, List.not_mem_nil, or_false, forall_eq_or_imp, forall_eq]; omega), noWf, noWf, noWf, noWf, noWf, noWf⟩⟩
  · simp [tailL, isSnd, telL, leL]
  · intro hlen; rfl
theorem wrote_body_43 (at_ : Int) : Wrote (bodyM 43 at_) (BodyR 43) := by
  rw [show bodyM 43 at_ = bind levelM fun x1 => ret ({ id := 43, used := x1 } : TB) by simp [bodyM, soundM, leadsM, tellsM]]
  refine (Wrote.bind (wrote_level) fun x1 => wrote_ret _).to fun B bs hbs h => ?_
  obtain ⟨x1, b1, c1, ⟨rfl, p1, q1⟩, ⟨rfl, rfl⟩, rfl⟩ := h
  refine ⟨rfl, ?_, ?_, ⟨nums_wf (by simp only [TB.nums, List.mem_cons, List.not_mem_nil, or_false, forall_eq_or_imp, forall_eq]; omega), noWf, noWf, noWf, noWf, noWf, noWf⟩⟩
  · simp [tailL, isSnd, telL, leL]
  · intro hlen; simp [mayB, sndB, othB, fitS, TB.rest]; omega
theorem wrote_body_49 (at_ : Int) : Wrote (bodyM 49 at_) (BodyR 49) := by
  rw [show bodyM 49 at_ = bind (num 1) fun x1 => bind (dataM 1) fun x2 => ret ({ id := 49, count := x1, data := x2 } : TB) by simp [bodyM, soundM, leadsM, tellsM]]
  refine (Wrote.bind (wrote_num 1) fun x1 => Wrote.bind (wrote_data 1) fun x2 => wrote_ret _).to fun B bs hbs h => ?_
  obtain ⟨x1, b1, c1, ⟨rfl, p1, q1⟩, ⟨x2, b2, c2, ⟨rfl, p2, q2⟩, ⟨rfl, rfl⟩, rfl⟩, rfl⟩ := h
  have q1_ : x1 < 256 := by simpa using q1
  have p2_ : (x2.length : Int) < 256 := by simpa using p2
  refine ⟨rfl, ?_, ?_, ⟨nums_wf (by simp only [TB.nums, List.mem_cons, List.not_mem_nil, or_false, forall_eq_or_imp, forall_eq]; omega), wf8 q2, noWf, noWf, noWf, noWf, noWf⟩⟩
  · simp [tailL, isSnd, telL, leL]
  · intro hlen; simp [mayB, sndB, othB, fitS, TB.rest]; omega
theorem wrote_body_50 (at_ : Int) : Wrote (bodyM 50 at_) (BodyR 50) := by
  rw [show bodyM 50 at_ = bind (itemsM (num 1) at_) fun x1 => ret ({ id := 50, items := x1 } : TB) by simp [bodyM, soundM, leadsM, tellsM]]
  refine (Wrote.bind (wrote_items (K := 1) at_ (wrote_num 1)) fun x1 => wrote_ret _).to fun B bs hbs h => ?_
  obtain ⟨x1, b1, c1, ⟨rfl, p1, q1, r1⟩, ⟨rfl, rfl⟩, rfl⟩ := h
  refine ⟨rfl, ?_, ?_, ⟨nums_wf (by simp only [TB.nums, List.mem_cons, List.not_mem_nil, or_false, forall_eq_or_imp, forall_eq]; omega), noWf, noWf, fun y hy => ⟨wf64 (by have := (r1 y hy).1; simp at this; omega), wf8 (r1 y hy).2.2⟩, noWf, noWf, noWf⟩⟩
  · simp [tailL, isSnd, telL, leL]
  · intro hlen; exact may_items50 p1 q1 r1
theorem wrote_body_51 (at_ : Int) : Wrote (bodyM 51 at_) (BodyR 51) := by
  rw [show bodyM 51 at_ = bind (num 1) fun x1 => bind (numbers (3 * x1) 1) fun x2 => ret ({ id := 51, times := x2 } : TB) by simp [bodyM, soundM, leadsM, tellsM]]
  refine (Wrote.bind (wrote_num 1) fun x1 => Wrote.bind (wrote_numbers (3 * x1) 1) fun x2 => wrote_ret _).to fun B bs hbs h => ?_
  obtain ⟨x1, b1, c1, ⟨rfl, p1, q1⟩, ⟨x2, b2, c2, ⟨rfl, p2, q2⟩, ⟨rfl, rfl⟩, rfl⟩, rfl⟩ := h
  have q1_ : x1 < 256 := by simpa using q1
  have q2_ : ∀ y ∈ x2, 0 ≤ y ∧ y ≤ 255 := fun y hy => by have := q2 y hy; simp at this; omega
  obtain rfl : x1 = (x2.length : Int) / 3 := by omega
  refine ⟨rfl, ?_, ?_, ⟨nums_wf (by simp only [TB.nums, List.mem_cons, List.not_mem_nil, or_false, forall_eq_or_imp, forall_eq]; omega), noWf, fun y hy => wf64 (by have := q2_ y hy; omega), noWf, noWf, noWf, noWf⟩⟩
  · simp [tailL, isSnd, telL, leL]
  · intro hlen; simp [mayB, sndB, othB, fitS, TB.rest]; exact ⟨by omega, by omega, fun y hy => by have := q2_ y hy; omega⟩
theorem wrote_body_52 (at_ : Int) : Wrote (bodyM 52 at_) (BodyR 52) := by
  rw [show bodyM 52 at_ = bind (take 8) fun x1 => ret ({ id := 52, data := x1 } : TB) by simp [bodyM, soundM, leadsM, tellsM]]
  refine (Wrote.bind (wrote_take 8) fun x1 => wrote_ret _).to fun B bs hbs h => ?_
  obtain ⟨x1, b1, c1, ⟨rfl, p1⟩, ⟨rfl, rfl⟩, rfl⟩ := h
  refine ⟨rfl, ?_, ?_, ⟨nums_wf (by simp only [TB.nums, List.mem_cons, List.not_mem_nil, or_false, forall_eq_or_imp, forall_eq]; omega), wf8 (by simpa using hbs), noWf, noWf, noWf, noWf, noWf⟩⟩
  · simp [tailL, isSnd, telL, leL]
  · intro hlen; simp [mayB, sndB, othB, fitS, TB.rest]; omega
theorem wrote_body_90 (at_ : Int) : Wrote (bodyM 90 at_) (BodyR 90) := by
  rw [show bodyM 90 at_ = bind gluedM fun x1 => ret ({ id := 90, data := x1 } : TB) by simp [bodyM, soundM, leadsM, tellsM]]
  refine (Wrote.bind (wrote_glued) fun x1 => wrote_ret _).to fun B bs hbs h => ?_
  obtain ⟨x1, b1, c1, ⟨rfl, p1, q1, r1⟩, ⟨rfl, rfl⟩, rfl⟩ := h
  refine ⟨rfl, ?_, ?_, ⟨nums_wf (by simp only [TB.nums, List.mem_cons, List.not_mem_nil, or_false, forall_eq_or_imp, forall_eq]; omega), wf8 r1, noWf, noWf, noWf, noWf, noWf⟩⟩
  · simp [tailL, isSnd, telL, leL]
  · intro hlen; simp [mayB, sndB, othB, fitS, TB.rest, ok90, glueL, p1, q1]
theorem wrote_body_53 (at_ : Int) : Wrote (bodyM 53 at_) (BodyR 53) := by
  rw [show bodyM 53 at_ = bind (take 16) fun x1 => bind (dataM 4) fun x2 => ret ({ id := 53, items := [(0, x1)], data := x2 } : TB) by simp [bodyM, soundM, leadsM, tellsM]]
  refine (Wrote.bind (wrote_take 16) fun x1 => Wrote.bind (wrote_data 4) fun x2 => wrote_ret _).to fun B bs hbs h => ?_
  obtain ⟨x1, b1, c1, ⟨rfl, p1⟩, ⟨x2, b2, c2, ⟨rfl, p2, q2⟩, ⟨rfl, rfl⟩, rfl⟩, rfl⟩ := h
  have p2_ : (x2.length : Int) < 4294967296 := by simpa using p2
  refine ⟨rfl, ?_, ?_, ⟨nums_wf (by simp only [TB.nums, List.mem_cons, List.not_mem_nil, or_false, forall_eq_or_imp, forall_eq]; omega), wf8 q2, noWf, by simp only [List.mem_singleton, forall_eq]; exact ⟨by decide, wf8 (fun y hy => hbs y (by simp [hy]))⟩, noWf, noWf, noWf⟩⟩
  · simp [tailL, isSnd, telL, leL, text53]
  · intro hlen; simp [mayB, sndB, othB, fitS, TB.rest, ok53]; simp [leB_len] at hlen; omega
end Rd
end Go.Proofs.Ytokidpajialgbaa
namespace Go.Proofs.Ytokidpajialgbaa
set_option linter.unusedSimpArgs false
set_option linter.unusedVariables false
namespace Rd
/-- a block that was read -/
def BlockR (B : TB) (bs : List Int) : Prop := bs = bytB B ∧ (bs.length ≤ 1048576 → mayB B = true) ∧ BWf B
theorem wrote_body (id at_ : Int) : Wrote (bodyM id at_) (fun B bs => B.id = id ∧ bs = tailL B ∧ (0 ≤ id ∧ id ≤ 255 → bs.length ≤ 1048576 → mayB B = true) ∧ (0 ≤ id ∧ id ≤ 255 → BWf B)) := by
  by_cases h16 : id = 16
  · subst h16; exact (wrote_body_16 at_).to fun B bs _ h => ⟨h.1, h.2.1, fun _ => h.2.2.1, fun _ => h.2.2.2⟩
  by_cases h17 : id = 17
  · subst h17; exact (wrote_body_17 at_).to fun B bs _ h => ⟨h.1, h.2.1, fun _ => h.2.2.1, fun _ => h.2.2.2⟩
  by_cases h18 : id = 18
  · subst h18; exact (wrote_body_18 at_).to fun B bs _ h => ⟨h.1, h.2.1, fun _ => h.2.2.1, fun _ => h.2.2.2⟩
  by_cases h19 : id = 19
  · subst h19; exact (wrote_body_19 at_).to fun B bs _ h => ⟨h.1, h.2.1, fun _ => h.2.2.1, fun _ => h.2.2.2⟩
  by_cases h20 : id = 20
  · subst h20; exact (wrote_body_20 at_).to fun B bs _ h => ⟨h.1, h.2.1, fun _ => h.2.2.1, fun _ => h.2.2.2⟩
  by_cases h21 : id = 21
  · subst h21; exact (wrote_body_21 at_).to fun B bs _ h => ⟨h.1, h.2.1, fun _ => h.2.2.1, fun _ => h.2.2.2⟩
  by_cases h24 : id = 24
  · subst h24; exact (wrote_body_24 at_).to fun B bs _ h => ⟨h.1, h.2.1, fun _ => h.2.2.1, fun _ => h.2.2.2⟩
  by_cases h25 : id = 25
  · subst h25; exact (wrote_body_25 at_).to fun B bs _ h => ⟨h.1, h.2.1, fun _ => h.2.2.1, fun _ => h.2.2.2⟩
  by_cases h32 : id = 32
  · subst h32; exact (wrote_body_32 at_).to fun B bs _ h => ⟨h.1, h.2.1, fun _ => h.2.2.1, fun _ => h.2.2.2⟩
  by_cases h34 : id = 34
  · subst h34; exact (wrote_body_34 at_).to fun B bs _ h => ⟨h.1, h.2.1, fun _ => h.2.2.1, fun _ => h.2.2.2⟩
  by_cases h37 : id = 37
  · subst h37; exact (wrote_body_37 at_).to fun B bs _ h => ⟨h.1, h.2.1, fun _ => h.2.2.1, fun _ => h.2.2.2⟩
  by_cases h39 : id = 39
  · subst h39; exact (wrote_body_39 at_).to fun B bs _ h => ⟨h.1, h.2.1, fun _ => h.2.2.1, fun _ => h.2.2.2⟩
  by_cases h33 : id = 33
  · subst h33; exact (wrote_body_33 at_).to fun B bs _ h => ⟨h.1, h.2.1, fun _ => h.2.2.1, fun _ => h.2.2.2⟩
  by_cases h48 : id = 48
  · subst h48; exact (wrote_body_48 at_).to fun B bs _ h => ⟨h.1, h.2.1, fun _ => h.2.2.1, fun _ => h.2.2.2⟩
  by_cases h35 : id = 35
  · subst h35; exact (wrote_body_35 at_).to fun B bs _ h => ⟨h.1, h.2.1, fun _ => h.2.2.1, fun _ => h.2.2.2⟩
  by_cases h36 : id = 36
  · subst h36; exact (wrote_body_36 at_).to fun B bs _ h => ⟨h.1, h.2.1, fun _ => h.2.2.1, fun _ => h.2.2.2⟩
  by_cases h38 : id = 38
  · subst h38; exact (wrote_body_38 at_).to fun B bs _ h => ⟨h.1, h.2.1, fun _ => h.2.2.1, fun _ => h.2.2.2⟩
  by_cases h40 : id = 40
  · subst h40; exact (wrote_body_40 at_).to fun B bs _ h => ⟨h.1, h.2.1, fun _ => h.2.2.1, fun _ => h.2.2.2⟩
  by_cases h42 : id = 42
  · subst h42; exact (wrote_body_42 at_).to fun B bs _ h => ⟨h.1, h.2.1, fun _ => h.2.2.1, fun _ => h.2.2.2⟩
  by_cases h43 : id = 43
  · subst h43; exact (wrote_body_43 at_).to fun B bs _ h => ⟨h.1, h.2.1, fun _ => h.2.2.1, fun _ => h.2.2.2⟩
  by_cases h49 : id = 49
  · subst h49; exact (wrote_body_49 at_).to fun B bs _ h => ⟨h.1, h.2.1, fun _ => h.2.2.1, fun _ => h.2.2.2⟩
  by_cases h50 : id = 50
  · subst h50; exact (wrote_body_50 at_).to fun B bs _ h => ⟨h.1, h.2.1, fun _ => h.2.2.1, fun _ => h.2.2.2⟩
  by_cases h51 : id = 51
  · subst h51; exact (wrote_body_51 at_).to fun B bs _ h => ⟨h.1, h.2.1, fun _ => h.2.2.1, fun _ => h.2.2.2⟩
  by_cases h52 : id = 52
  · subst h52; exact (wrote_body_52 at_).to fun B bs _ h => ⟨h.1, h.2.1, fun _ => h.2.2.1, fun _ => h.2.2.2⟩
  by_cases h90 : id = 90
  · subst h90; exact (wrote_body_90 at_).to fun B bs _ h => ⟨h.1, h.2.1, fun _ => h.2.2.1, fun _ => h.2.2.2⟩
  by_cases h53 : id = 53
  · subst h53; exact (wrote_body_53 at_).to fun B bs _ h => ⟨h.1, h.2.1, fun _ => h.2.2.1, fun _ => h.2.2.2⟩
  have e2 : bodyM id at_ = bind (dataM 4) fun x1 => ret ({ id := id, data := x1 } : TB) := by
    simp only [bodyM, tellsM]; simp only [h16, h17, h18, h19, h20, h21, h24, h25, h32, h34, h37, h39, h33, h48, h35, h36, h38, h40, h42, h43, h49, h50, h51, h52, h90, h53, or_self, if_false]
  rw [e2]
  refine (Wrote.bind (wrote_data 4) fun x1 => wrote_ret _).to fun B bs hbs h => ?_
  obtain ⟨x1, b1, c1, ⟨rfl, p1, q1⟩, ⟨rfl, rfl⟩, rfl⟩ := h
  have hs : isSnd id = false := by simp [isSnd]; omega
  refine ⟨rfl, ?_, fun hi hlen => ?_, fun hi => ⟨nums_wf (by simp only [TB.nums, List.mem_cons, List.not_mem_nil, or_false, forall_eq_or_imp, forall_eq]; omega), wf8 q1, noWf, noWf, noWf, noWf, noWf⟩⟩
  · unfold tailL
    simp only
    rw [hs]
    show _ = telL _
    unfold telL; simp only [h34, h37, h39, h33, h48, h35, h36, h38, h40, h42, h43, h49, h50, h51, h52, h90, h53, if_false, List.append_nil]
  · have e : sndB ({ id := id, data := x1 } : TB) = (fitS 1048576 [(x1.length : Int)], { id := id }) := by simp only [sndB, othB]; simp only [h16, h17, h18, h19, h20, h21, h24, h25, h32, h34, h37, h39, h33, h48, h35, h36, h38, h40, h42, h43, h49, h50, h51, h52, h90, h53, if_false]
    simp [leB_len] at hlen
    unfold mayB
    rw [e]
    simp [fitS, TB.rest]; omega
theorem wrote_block : Wrote blockM BlockR := fun L s hL hb => by
  have h : Wrote (bind (num 1) (fun id => bodyM id (s.k : Int))) BlockR :=
    (Wrote.bind (wrote_num 1) fun id => wrote_body id (s.k : Int)).to fun B bs hbs h => by
      obtain ⟨id, b1, c1, ⟨rfl, p1, q1⟩, ⟨h1, rfl, h3, h4⟩, rfl⟩ := h
      simp at q1
      refine ⟨by rw [← h1]; rfl, fun hl => h3 ⟨p1, by omega⟩ (by rw [List.length_append] at hl; omega), h4 ⟨p1, by omega⟩⟩
  exact h L s hL hb
theorem wrote_blocks : ∀ (f cnt : Nat) (L : List Int) (s : St), Byts L → L.length ≤ 1048576 → L.length - s.k < f → (blocksM f cnt L s).2.bad = none →
    s.bad = none ∧ L.drop s.k = (blocksM f cnt L s).1.1.flatMap bytB ∧ (blocksM f cnt L s).1.1.all mayB = true ∧ (∀ B ∈ (blocksM f cnt L s).1.1, BWf B) ∧ (cnt ≤ 4096 → cnt + (blocksM f cnt L s).1.1.length ≤ 4096)
  | 0, cnt, L, s, _, _, hf, _ => by omega
  | f + 1, cnt, L, s, hL, hl, hf, hb => by
    unfold blocksM at hb ⊢
    by_cases h0 : left L.length s = 0
    · rw [if_pos h0] at hb ⊢
      simp only at hb ⊢
      refine ⟨hb, ?_, rfl, fun B h => by simp at h, fun h => by simpa using h⟩
      unfold left at h0
      rw [hb] at h0
      simp only at h0
      rw [List.drop_eq_nil_of_le (by omega)]; rfl
    · rw [if_neg h0] at hb ⊢
      by_cases h1 : cnt = 4096
      · rw [if_pos h1] at hb; exact (fail_none hb).elim
      · rw [if_neg h1] at hb ⊢
        simp only at hb ⊢
        have hless := block_less L s h0
        have hk : s.k < L.length := by
          unfold left at h0
          split at h0 <;> omega
        obtain ⟨a1, a2, a3, a4, a5⟩ := wrote_blocks f (cnt + 1) L (blockM L s).2 hL hl (by omega) hb
        obtain ⟨c1, bs, c2, c3, c4, ⟨c5, c6, c7⟩⟩ := wrote_block L s hL a1
        have hbl : bs.length ≤ 1048576 := by
          have := congrArg List.length c2
          simp only [List.length_drop, List.length_append] at this
          omega
        refine ⟨c1, ?_, ?_, ?_, fun h => ?_⟩
        · rw [c2, a2, c5]; rfl
        · rw [List.all_cons, c6 hbl, a3]; rfl
        · intro B hB
          rcases List.mem_cons.1 hB with rfl | hB
          · exact c7
          · exact a4 B hB
        · have := a5 (by omega)
          simp only [List.length_cons]; omega
end Rd
theorem fileFrom_some : ∀ (l : List TB) (L0 : List Int), (L0 ++ l.flatMap bytB).length ≤ 1048576 → fileFrom l L0 = some (L0 ++ l.flatMap bytB)
  | [], L0, _ => by simp [fileFrom]
  | B :: t, L0, h => by
    unfold fileFrom
    have h2 : (L0 ++ bytB B ++ t.flatMap bytB).length ≤ 1048576 := by simpa [List.append_assoc] using h
    rw [if_neg (by rw [List.length_append] at h2; omega), fileFrom_some t _ h2]
    simp
/-- the theorem of reading: bytes that are read as a tape are its file -/
theorem file_parse {L : List Int} {maj min : Int} {l : List TB} (hB : Byts L) (h : Rd.parseD L = .tape maj min l) : writeR maj min l = (some L, 0, 0) ∧ l.all mayB = true ∧ (∀ B ∈ l, BWf B) ∧ (0 ≤ maj ∧ maj ≤ 255) ∧ (0 ≤ min ∧ min ≤ 255) := by
  unfold Rd.parseD at h
  by_cases h1 : 1048576 < L.length
  · rw [if_pos h1] at h; cases h
  rw [if_neg h1] at h
  by_cases h2 : L.length < 8 ∨ L.take 8 ≠ Rd.sign8
  · rw [if_pos h2] at h; cases h
  rw [if_neg h2] at h
  have h8 : L.take 8 = Rd.sign8 := Decidable.not_not.1 fun e => h2 (.inr e)
  generalize hs1 : Rd.num 1 L Rd.s8 = T1 at h
  generalize hs2 : Rd.num 1 L T1.2 = T2 at h
  generalize hs3 : Rd.blocksM (L.length + 1) 0 L T2.2 = T3 at h
  unfold Rd.restD at h
  cases hb : T3.2.bad with
  | some q => rw [hb] at h; obtain ⟨E, p⟩ := q; cases h
  | none =>
    rw [hb] at h
    simp only at h
    unfold Rd.soundD at h
    split at h
    rotate_left
    · cases h
    rename_i hsnd
    injection h with e1 e2 e3
    have w3 := Rd.wrote_blocks (L.length + 1) 0 L T2.2 hB (by omega) (by omega) (by rw [hs3]; exact hb)
    rw [hs3, e3] at w3
    obtain ⟨a1, a2, a3, a4, a5⟩ := w3
    obtain ⟨d1, bs2, d2, d3, d4, d5, d6⟩ := Rd.wrote_num 1 L T1.2 hB (by rw [hs2]; exact a1)
    obtain ⟨f1, bs1, f2, f3, f4, f5, f6⟩ := Rd.wrote_num 1 L Rd.s8 hB (by rw [hs1]; exact d1)
    rw [hs2] at d2 d5 d6
    rw [hs1] at f2 f5 f6
    rw [e2] at d5 d6
    rw [e1] at f5 f6
    simp at d6 f6
    have hL : L = fileHead maj min ++ l.flatMap bytB := by
      have h9 : L = L.take 8 ++ L.drop 8 := (List.take_append_drop 8 L).symm
      rw [h8, show L.drop 8 = L.drop Rd.s8.k from rfl, f2, d2, a2, f5, d5] at h9
      rw [h9]
      unfold fileHead headB Rd.sign8
      simp [leL]
    have hlen := a5 (by omega)
    rw [e3] at hsnd
    refine ⟨?_, a3, a4, ⟨f6.1, by omega⟩, ⟨d6.1, by omega⟩⟩
    unfold writeR
    rw [if_neg (by simp [fitS]; omega), if_neg (by omega), if_neg (by rw [badIdx_all a3]; omega), if_neg (by rw [hsnd]; simp), fileFrom_some l _ (by rw [← hL]; omega), ← hL]
    rfl
end Go.Proofs.Ytokidpajialgbaa
namespace Go.Proofs.Ytokidpajialgbaa
set_option linter.unusedSimpArgs false
set_option linter.unusedVariables false
open Go.RowKit
set_option maxRecDepth 100000 in
set_option maxHeartbeats 8000000 in
theorem spellReads_body (A : Option Addr) (n c : Nat) (L : List Int) (w : World) (hl : Ints w A .u8 L) (hw : ∀ x ∈ L, (Lit.int .u8 x).wf = true) (hn : L.length = n) (hc : n ≤ c) :
    Calls Try.prog 6 #[.slice A n c] w (SaysB true w) := by
  have hby := byts_wf hw
  have HPA := Lib.hid (parse_any A n c L w hl hby hn hc)
  have HL := Lib.hid hl; have HN := Lib.hid hn; have HBY := Lib.hid hby
  clear hl hw hn hby
  by_cases hbig : 20000 < n
  · have hb2 : (20000 : Int) < n := by omega
    go_enter Try.func6, Try.ntmps6
    go_wp2_with (first | (go_at_call 9; refine (lives20 _).mono ?_; rintro e w3 ⟨rfl, hb3⟩; have HBC := Lib.hid hb3; clear hb3))
    go_ret
    exact ⟨rfl, HBC.out⟩
  have hb2 : ¬ (20000 : Int) < n := by omega
  unfold ParsP at HPA
  cases hD : Rd.parseD L with
  | fault E p =>
    rw [hD] at HPA
    simp only at HPA
    clear hD
    go_enter Try.func6, Try.ntmps6
    go_wp2_with (first
      | (go_at_call 17; refine HPA.out.mono ?_; rintro e w4 ⟨hb4, f, rfl, hf⟩; have HB4 := Lib.hid hb4; clear hb4 hf)
      | (go_at_call 9; refine (lives20 _).mono ?_; rintro e w5 ⟨rfl, hb5⟩; have HB5 := Lib.hid ((HB4.out.alloc HB4.out.size _).trans (hb5.mono (HB4.out.alloc HB4.out.size _).size)); clear hb5))
    go_ret
    exact ⟨rfl, HB5.out⟩
  | tape maj min l =>
    rw [hD] at HPA
    simp only at HPA
    obtain ⟨hwr, hmay, hbwf, hmj, hmn⟩ := file_parse HBY.out hD
    have HWR := Lib.hid hwr; have HMAY := Lib.hid hmay; have HBW := Lib.hid hbwf; have HMJ := Lib.hid hmj; have HMN := Lib.hid hmn
    generalize hnl : l.length = nl at HPA
    have HNL := Lib.hid hnl
    clear hD hwr hmay hbwf hmj hmn hnl
    go_enter Try.func6, Try.ntmps6
    go_upto_region 4 with (first
      | (go_at_call 17; refine HPA.out.mono ?_; rintro e w4 ⟨hb4, bl, X, cs, rfl, hown, htb⟩
         have hbv : BlksV w4 bl l := blksV_parsed (by rw [HNL.out]; exact hown) htb HBW.out
         obtain ⟨A4, c4, rfl, hc41, hc42, -⟩ := own_row hown
         have HB4 := Lib.hid hb4
         have HBV := Lib.hid hbv
         clear hb4 hown htb hbv))
    obtain ⟨t3, ht3⟩ : ∃ b, b = w4.heap.size := ⟨_, rfl⟩
    obtain ⟨ws, hws⟩ : ∃ u, u = w4.alloc (.cells #[.int .i64 maj, .int .i64 min, .slice A4 nl c4] 33) := ⟨_, rfl⟩
    rw [← hws, ← ht3]
    have hks : Blk ws t3 33 [.int .i64 maj, .int .i64 min, .slice A4 nl c4] := by rw [hws, ht3]; exact Blk.new w4 _ _
    have hbs : Below w4.heap.size w4 ws := by rw [hws]; exact (Below.refl _ w4).alloc (Nat.le_refl _) _
    have HK : Hid (∀ u, Below ws.heap.size ws u → u.cell? ⟨t3, 2, none⟩ = some (.slice A4 nl c4) ∧ u.rangeAt t3 0 [.int .i64 maj, .int .i64 min, .slice A4 nl c4]) := Lib.hid (fun u hu => by
      have hu1 := hks.below_ hu
      exact ⟨hu1.cell 2, fun i v hi => by rw [Nat.zero_add]; exact (hu1.cell i).trans hi⟩)
    have HBS := Lib.hid (HB4.out.trans (hbs.mono HB4.out.size))
    have hbv2 := HBV.out.below hbs
    have HVS := Lib.hid hbv2
    obtain ⟨A5, c5, e5, -, -, h5⟩ := hbv2
    injection e5 with e51 e52 e53
    subst e51
    have HL5 := Lib.hid h5
    have m0 : maxLen = 9223372036854775807 := rfl
    have hnl2 : nl ≤ 9223372036854775807 := by omega
    clear hws ht3 hks hbs e52 e53 h5 m0 hc41 hc42
    have HI : Hid ((Try.prog.info? 33).map (·.size) = some 3) := by show _ = _; kernel_rfl
    go_wp2_with fail
    go_loopw [5] (fun idx wr => ∃ (k : Nat), idx = .int .i64 k ∧ k ≤ nl ∧ Hid (Below ws.heap.size ws wr)) (fun idx _ => nl - (intOf idx).toNat)
    case atStart => exact ⟨0, rfl, Nat.zero_le _, Lib.hid (Below.refl _ _)⟩
    case round =>
      obtain ⟨k, rfl, hk, HB⟩ := hrel
      have x2 := (HK.out wr HB.out).1
      by_cases hlt : k < nl
      · have hlt2 : (k : Int) < nl := by omega
        obtain ⟨B, hB⟩ : ∃ x, l[k]? = some x := ⟨_, List.getElem?_eq_getElem (by rw [HNL.out]; exact hlt)⟩
        obtain ⟨g, o, cs, hA4, hr, ht⟩ := HL5.out k B hB
        subst hA4
        have hr1 := rangeBelow hr HB.out
        have ht1 := ht.below HB.out
        have hl18 := ht.len
        have hmB : mayB B = true := List.all_eq_true.1 HMAY.out B (List.mem_of_getElem? hB)
        have v2 : IntKind.i64.wrap ((k : Int) + 1) = ((k + 1 : Nat) : Int) := by rw [IntKind.wrap_i64]; omega
        have HM := Lib.hid (may_any cs B wr ht1)
        rw [hmB] at HM
        have HR := Lib.hid hr1
        have HI' : Hid ((Try.prog.info? 28).map (·.size) = some cs.length) := by show _ = _; rw [hl18]; exact infoBlkS
        clear hr hr1 ht ht1 hl18 hB hmB
        go_wp2_with (first
          | (refine wpList_load_mid rfl 28 (.tmp 31) rfl g (o + k * 18) rfl cs _ HR.out Try.underlying28 rfl HI'.out ?_)
          | (go_at_call 10; refine HM.out.mono ?_; rintro e w3 ⟨rfl, hb3⟩; have HB3 := Lib.hid (HB.out.trans (hb3.mono HB.out.size)); clear hb3))
        go_roundw
        case rel => exact ⟨k + 1, by go_num, by omega, HB3⟩
        case measure => simp [intOf]; omega
      · have hlt2 : ¬ (k : Int) < nl := by omega
        obtain ⟨wo, rfl⟩ : ∃ wo : World, wo = wr := ⟨_, rfl⟩
        have HR := Lib.hid (HK.out wo HB.out).2
        have HWA := Lib.hid (write_any maj min _ l wo (HVS.out.below HB.out) (wf64 (by have := HMJ.out; omega)) (wf64 (by have := HMN.out; omega)))
        rw [HWR.out] at HWA
        have HB0 := Lib.hid (HBS.out.trans (HB.out.mono HBS.out.size))
        obtain ⟨X, hX⟩ : ∃ X, X = txt8 L := ⟨_, rfl⟩
        have hxx : (X.toList == X.toList) = true := by simp
        go_upto_region 12 with (first
          | (refine wpList_load_mid rfl 33 (.tmp 3) rfl t3 0 rfl [.int .i64 maj, .int .i64 min, .slice A4 nl c4] _ HR.out Try.underlying33 rfl HI.out ?_)
          | (go_at_call 13; refine HWA.out.mono ?_; rintro e w6 ⟨v, rfl, hf, hb6⟩
             have hf2 : RowM w6 wo.heap.size v L.length (L.map (.int .u8)) ∧ L.length ≤ 1048576 := hf
             obtain ⟨A6, c6, e6, hm6, -, hi6⟩ := hf2.1.ints
             subst e6
             have HB6 := Lib.hid (HB0.out.trans (hb6.mono HB0.out.size))
             have hcv1 := RowV.conv (c := c6) hi6 rfl
             have hcv2 := RowV.conv (c := c) (Cells.below HL.out HB6.out) HN.out
             rw [HN.out, ← hX] at hcv1
             rw [← hX] at hcv2
             rw [HN.out]
             clear hf hf2 hm6 hi6 hb6))
        go_wp2_with (first
          | (go_at_call 9; refine (lives20 _).mono ?_; rintro e w7 ⟨rfl, hb7⟩; have HB7 := Lib.hid (HB6.out.trans (hb7.mono HB6.out.size)); clear hb7))
        go_ret
        exact ⟨rfl, HB7.out⟩
end Go.Proofs.Ytokidpajialgbaa
