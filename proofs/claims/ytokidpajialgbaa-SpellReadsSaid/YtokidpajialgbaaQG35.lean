/- Texts that are laid together: G35. -/
import Derived.Test.YtokidpajialgbaaQG00
import Derived.Test.YtokidpajialgbaaQG33
import Derived.Test.YtokidpajialgbaaQRdM
namespace Go.Proofs.Ytokidpajialgbaa
set_option linter.unusedSimpArgs false
set_option linter.unusedVariables false
open Go.RowKit
/-- its six slices -/
structure TB.Rows (w : World) (base : Nat) (B : TB) (d t i p s r : Value) : Prop where
  d : RowOf w base d .u8 B.data
  t : RowOf w base t .i64 B.times
  i : SymsOf w base 46 .u8 i B.items
  p : SymsOf w base 48 .i64 p B.pilots
  s : SymsOf w base 48 .i64 s B.syms
  r : RepsOf w base r B.reps
/-- a block that has been filled -/
def TbIn (w : World) (base R P b : Nat) (A : Addr) (n c : Nat) (L : List Int) (st : Rd.St) (B : TB) : Prop :=
  ∃ d t i p s r, Fill w R P b A n c L st (B.cells d t i p s r) ∧ TB.Rows w base B d t i p s r
def fresh (id : Int) : List Value := TB.cells { id := id } nilS nilS nilS nilS nilS nilS
def SndP (R P b : Nat) (A : Addr) (n c : Nat) (L : List Int) (w : World) (v : Value) (B : TB) (st : Rd.St) (e : Ending) (w' : World) : Prop :=
  e = .returned v ∧ TbIn w' w.heap.size R P b A n c L st B ∧ Grew2 R b w w'
theorem tbIn_of {w : World} {base R P b : Nat} {A : Addr} {n c : Nat} {L : List Int} {st : Rd.St} {B : TB} {cs : List Value} {d t i p s r : Value} (h : Fill w R P b A n c L st cs) (hc : cs = B.cells d t i p s r) (hr : TB.Rows w base B d t i p s r) : TbIn w base R P b A n c L st B :=
  ⟨d, t, i, p, s, r, hc ▸ h, hr⟩
theorem rows_none {w : World} {base : Nat} {B : TB} (h : B.data = [] ∧ B.times = [] ∧ B.items = [] ∧ B.pilots = [] ∧ B.syms = [] ∧ B.reps = []) : TB.Rows w base B nilS nilS nilS nilS nilS nilS := by
  obtain ⟨h1, h2, h3, h4, h5, h6⟩ := h
  refine ⟨?_, ?_, ?_, ?_, ?_, ?_⟩
  · rw [h1]; exact row_nil _ _ _
  · rw [h2]; exact row_nil _ _ _
  · rw [h3]; exact syms_nil _ _ _ _
  · rw [h4]; exact syms_nil _ _ _ _
  · rw [h5]; exact syms_nil _ _ _ _
  · rw [h6]; exact reps_nil _ _
namespace Rd
def soundM (id at_ : Int) : RM TB :=
  if id = 16 then bind (num 2) fun x1 => bind (dataM 2) fun x2 => ret ({ id := 16, pause := x1, data := x2 } : TB)
  else if id = 17 then bind (num 2) fun x1 => bind (num 2) fun x2 => bind (num 2) fun x3 => bind (num 2) fun x4 => bind (num 2) fun x5 => bind (num 2) fun x6 => bind pureM fun x7 => ret ({ id := 17, pilot := x1, sync1 := x2, sync2 := x3, zero := x4, one := x5, count := x6, used := x7.1, pause := x7.2.1, data := x7.2.2 } : TB)
  else if id = 18 then bind (num 2) fun x1 => bind (num 2) fun x2 => ret ({ id := 18, tone := x1, count := x2 } : TB)
  else if id = 19 then bind (num 1) fun x1 => bind (numbers x1 2) fun x2 => ret ({ id := 19, times := x2 } : TB)
  else if id = 20 then bind (num 2) fun x1 => bind (num 2) fun x2 => bind pureM fun x3 => ret ({ id := 20, zero := x1, one := x2, used := x3.1, pause := x3.2.1, data := x3.2.2 } : TB)
  else if id = 21 then bind (num 2) fun x1 => bind (num 2) fun x2 => bind (num 1) fun x3 => bind (dataM 3) fun x4 => ret ({ id := 21, rate := x1, pause := x2, used := x3, data := x4 } : TB)
  else if id = 24 then bind (samplesM at_) fun x1 => ret ({ id := 24, pause := x1.1, rate := x1.2.1, pack := x1.2.2.1, count := x1.2.2.2.1, data := x1.2.2.2.2 } : TB)
  else if id = 25 then bind (generalM at_) fun x1 => ret ({ id := 25, pause := x1.pa, pilot := x1.pi, sync1 := x1.sy, count := x1.co, zero := x1.ze, one := x1.on, pilots := x1.pil, syms := x1.syl, reps := x1.rl, data := x1.dat } : TB)
  else if id = 32 then bind (num 2) fun x1 => ret ({ id := 32, pause := x1 } : TB)
  else ret {}
def leadsM (id at_ : Int) : RM TB :=
  if id = 34 then ret ({ id := 34 } : TB)
  else if id = 37 then ret ({ id := 37 } : TB)
  else if id = 39 then ret ({ id := 39 } : TB)
  else if id = 35 then bind (signedM 1) fun x1 => ret ({ id := 35, times := x1 } : TB)
  else if id = 36 then bind (num 2) fun x1 => ret ({ id := 36, count := x1 } : TB)
  else if id = 38 then bind (num 2) fun x1 => bind (signedM x1.toNat) fun x2 => ret ({ id := 38, times := x2 } : TB)
  else if id = 40 then bind (itemsM signed at_) fun x1 => ret ({ id := 40, items := x1 } : TB)
  else if id = 42 then bind (fixed 0) fun x1 => ret ({ id := 42 } : TB)
  else if id = 43 then bind levelM fun x1 => ret ({ id := 43, used := x1 } : TB)
  else ret {}
def tellsM (id at_ : Int) : RM TB :=
  if id = 33 then bind (dataM 1) fun x1 => ret ({ id := 33, data := x1 } : TB)
  else if id = 48 then bind (dataM 1) fun x1 => ret ({ id := 48, data := x1 } : TB)
  else if id = 49 then bind (num 1) fun x1 => bind (dataM 1) fun x2 => ret ({ id := 49, count := x1, data := x2 } : TB)
  else if id = 50 then bind (itemsM (num 1) at_) fun x1 => ret ({ id := 50, items := x1 } : TB)
  else if id = 51 then bind (num 1) fun x1 => bind (numbers (3 * x1) 1) fun x2 => ret ({ id := 51, times := x2 } : TB)
  else if id = 53 then bind (take 16) fun x1 => bind (dataM 4) fun x2 => ret ({ id := 53, items := [(0, x1)], data := x2 } : TB)
  else if id = 52 then bind (take 8) fun x1 => ret ({ id := 52, data := x1 } : TB)
  else if id = 90 then bind gluedM fun x1 => ret ({ id := 90, data := x1 } : TB)
  else bind (dataM 4) fun x1 => ret ({ id := id, data := x1 } : TB)
/-- a block, of an ID that was read -/
def bodyM (id at_ : Int) : RM TB := if (id = 16 ∨ id = 17 ∨ id = 18 ∨ id = 19 ∨ id = 20 ∨ id = 21 ∨ id = 24 ∨ id = 25 ∨ id = 32) then soundM id at_ else if (id = 34 ∨ id = 37 ∨ id = 39 ∨ id = 35 ∨ id = 36 ∨ id = 38 ∨ id = 40 ∨ id = 42 ∨ id = 43) then leadsM id at_ else tellsM id at_
def blockM : RM TB := fun L s => bind (num 1) (fun id => bodyM id s.k) L s
end Rd
end Go.Proofs.Ytokidpajialgbaa
namespace Go.Proofs.Ytokidpajialgbaa
set_option linter.unusedSimpArgs false
set_option linter.unusedVariables false
namespace Rd
/-- what reads is such that: a fault stays; it goes on; its faults lie where it was; longer bytes are read the same -/
structure Good {α : Type} (a : Nat) (m : RM α) : Prop where
  keep : ∀ (L : List Int) (s : St) q, s.bad = some q → (m L s).2 = s
  mono : ∀ (L : List Int) (s : St), s.k ≤ (m L s).2.k
  le : ∀ (L : List Int) (s : St), s.k ≤ L.length → (m L s).2.k ≤ L.length
  placed : ∀ (L : List Int) (s : St) E p, s.bad = none → a ≤ s.k → s.k ≤ L.length → (m L s).2.bad = some (E, p) → 0 ≤ p ∧ p ≤ L.length
  ahead : ∀ (L M : List Int) (s : St), s.bad = none → s.k ≤ L.length → ((m L s).2.bad = none → m (L ++ M) s = m L s) ∧ (∀ E p, (m L s).2.bad = some (E, p) → E ≠ 2 → (m (L ++ M) s).2.bad = some (E, p))
variable {α β : Type} {a b : Nat}
theorem Good.wider {m : RM α} (h : Good a m) (hab : a ≤ b) : Good b m := ⟨h.keep, h.mono, h.le, fun L s E p h1 h2 => h.placed L s E p h1 (Nat.le_trans hab h2), h.ahead⟩
theorem good_ret (x : α) : Good a (ret x) :=
  ⟨fun _ _ _ _ => rfl, fun _ _ => Nat.le_refl _, fun _ _ h => h, (fun L s E p h1 _ _ h4 => by simp only [ret] at h4; rw [h1] at h4; cases h4), fun L M s h1 _ => ⟨fun _ => rfl, fun E p h3 _ => by simp only [ret] at h3; rw [h1] at h3; cases h3⟩⟩
theorem good_bind {m : RM α} {f : α → RM β} (hm : Good a m) (hf : ∀ x, Good a (f x)) : Good a (bind m f) := by
  refine ⟨fun L s q h => ?_, fun L s => Nat.le_trans (hm.mono L s) ((hf _).mono L _), fun L s h => (hf _).le L _ (hm.le L s h), fun L s E p h1 h2 h3 h4 => ?_, fun L M s h1 h2 => ⟨fun h3 => ?_, fun E p h3 h4 => ?_⟩⟩
  · have h1 := hm.keep L s q h
    show (f (m L s).1 L (m L s).2).2 = s
    rw [h1]
    exact (hf _).keep L s q h
  · cases hb : (m L s).2.bad with
    | none => exact (hf _).placed L _ E p hb (Nat.le_trans h2 (hm.mono L s)) (hm.le L s h3) h4
    | some q =>
      have h5 := (hf (m L s).1).keep L _ q hb
      have h6 : (f (m L s).1 L (m L s).2).2.bad = some (E, p) := h4
      rw [h5] at h6
      exact hm.placed L s E p h1 h2 h3 h6
  · cases hb : (m L s).2.bad with
    | none =>
      have h5 := (hm.ahead L M s h1 h2).1 hb
      show f (m (L ++ M) s).1 (L ++ M) (m (L ++ M) s).2 = f (m L s).1 L (m L s).2
      rw [h5]
      exact ((hf _).ahead L M _ hb (hm.le L s h2)).1 h3
    | some q =>
      have h5 := (hf (m L s).1).keep L _ q hb
      have h6 : (f (m L s).1 L (m L s).2).2.bad = none := h3
      rw [h5, hb] at h6
      cases h6
  · cases hb : (m L s).2.bad with
    | none =>
      have h5 := (hm.ahead L M s h1 h2).1 hb
      show (f (m (L ++ M) s).1 (L ++ M) (m (L ++ M) s).2).2.bad = _
      rw [h5]
      exact ((hf _).ahead L M _ hb (hm.le L s h2)).2 E p h3 h4
    | some q =>
      have h5 := (hf (m L s).1).keep L _ q hb
      have h6 : (f (m L s).1 L (m L s).2).2.bad = some (E, p) := h3
      rw [h5] at h6
      have h7 := (hm.ahead L M s h1 h2).2 E p h6 h4
      show (f (m (L ++ M) s).1 (L ++ M) (m (L ++ M) s).2).2.bad = _
      rw [(hf _).keep (L ++ M) _ _ h7]
      exact h7
/-- by the place at which it begins -/
def withK (f : Nat → RM α) : RM α := fun L s => f s.k L s
theorem good_withK {f : Nat → RM α} (h : ∀ k c, k ≤ c → a ≤ c → Good c (f k)) : Good a (withK f) := by
  refine ⟨fun L s q hq => ?_, fun L s => ?_, fun L s hl => ?_, fun L s E p h1 h2 h3 h4 => (h s.k s.k (Nat.le_refl _) h2).placed L s E p h1 (Nat.le_refl _) h3 h4, fun L M s h1 h2 => ?_⟩
  · exact (h s.k (max s.k a) (by omega) (by omega)).keep L s q hq
  · exact (h s.k (max s.k a) (by omega) (by omega)).mono L s
  · exact (h s.k (max s.k a) (by omega) (by omega)).le L s hl
  · exact (h s.k (max s.k a) (by omega) (by omega)).ahead L M s h1 h2
theorem good_nextM (j : Nat) : Good a (nextM j) := by
  refine ⟨fun L s q h => ?_, fun L s => ?_, fun L s h => ?_, fun L s E p h1 h2 h3 h4 => ?_, fun L M s h1 h2 => ⟨fun h3 => ?_, fun E p h3 h4 => ?_⟩⟩
  · unfold nextM; rw [h]
  · unfold nextM
    split
    · exact Nat.le_refl _
    · split <;> simp
  · unfold nextM
    split
    · exact h
    · split
      · exact h
      · simp; omega
  · unfold nextM at h4
    rw [h1] at h4
    simp only at h4
    split at h4
    · simp at h4
      omega
    · simp at h4
  · unfold nextM at h3 ⊢
    rw [h1] at h3 ⊢
    simp only at h3 ⊢
    split at h3
    · simp at h3
    · rename_i hc
      rw [if_neg (by simp; omega), if_neg hc]
      rw [List.drop_append_of_le_length h2, List.take_append_of_le_length (by simp; omega)]
  · unfold nextM at h3
    rw [h1] at h3
    simp only at h3
    split at h3
    · simp at h3; omega
    · simp at h3
theorem fail_k (s : St) (E p : Int) : (fail s E p).k = s.k := by unfold fail; split <;> rfl
theorem good_failM (E p : Int) (hp : 0 ≤ p ∧ p ≤ a) : Good a (failM E p) := by
  refine ⟨fun L s q h => ?_, fun L s => ?_, fun L s h => ?_, fun L s E' p' h1 h2 h3 h4 => ?_, fun L M s h1 h2 => ⟨fun _ => rfl, fun _ _ h _ => h⟩⟩
  · show fail s E p = s; unfold fail; rw [h]
  · show s.k ≤ (fail s E p).k; rw [fail_k]; exact Nat.le_refl _
  · show (fail s E p).k ≤ _; rw [fail_k]; exact h
  · have h5 : (fail s E p).bad = some (E', p') := h4
    unfold fail at h5
    rw [h1] at h5
    simp at h5
    omega
theorem good_num (j : Nat) : Good a (num j) := good_bind (good_nextM j) fun _ => good_ret _
theorem good_signed : Good a signed := good_bind (good_num 2) fun _ => good_ret _
theorem fail_bad {s : St} {q : Int × Int} (h : s.bad = some q) (E p : Int) : fail s E p = s := by unfold fail; rw [h]
theorem take_eq (j : Int) : take j = withK fun k => if j < 0 then bind (failM 1 k) fun _ => ret [] else nextM j.toNat := by
  funext L s
  unfold take withK
  split <;> rfl
theorem good_take (j : Int) : Good a (take j) := by
  rw [take_eq]
  refine good_withK fun k c h1 h2 => ?_
  split
  · exact good_bind (good_failM 1 k (by omega)) fun _ => good_ret _
  · exact good_nextM _
theorem good_data (j : Nat) : Good a (dataM j) := good_bind (good_num j) fun _ => good_take _
theorem good_fixed (v : Int) : Good a (fixed v) := by
  show Good a (withK fun k => bind (num 4) (fun m => if m = v then ret () else failM 4 k))
  refine good_withK fun k c h1 h2 => good_bind (good_num 4) fun m => ?_
  split
  · exact good_ret _
  · exact good_failM 4 k (by omega)
/-- what stands behind a fault does nothing -/
theorem good_unless {m : RM α} (h : Good a m) (x : α) : Good a (fun L s => match s.bad with | some _ => (x, s) | none => m L s) := by
  refine ⟨fun L s q hq => by simp only [hq], fun L s => ?_, fun L s hl => ?_, fun L s E p h1 h2 h3 h4 => ?_, fun L M s h1 h2 => ?_⟩
  · cases hb : s.bad with
    | none => simp only; exact h.mono L s
    | some q => simp only; exact Nat.le_refl _
  · cases hb : s.bad with
    | none => simp only; exact h.le L s hl
    | some q => simp only; exact hl
  · simp only [h1] at h4; exact h.placed L s E p h1 h2 h3 h4
  · simp only [h1]; exact h.ahead L M s h1 h2
theorem good_loop {f : RM α} (hf : Good a f) : ∀ m, Good a (loop f m)
  | 0 => good_ret _
  | m + 1 => good_unless (good_bind hf fun x => good_bind (good_loop hf m) fun l => good_ret _) []
theorem good_rep {f : RM α} (hf : Good a f) : ∀ m, Good a (rep f m)
  | 0 => good_ret _
  | m + 1 => good_bind hf fun x => good_bind (good_rep hf m) fun l => good_ret _
theorem good_numbers (many : Int) (j : Nat) : Good a (numbers many j) := by
  have hr : Good a (rep (num j) many.toNat) := good_rep (good_num j) _
  refine ⟨fun L s q h => ?_, fun L s => ?_, fun L s h => ?_, fun L s E p h1 h2 h3 h4 => ?_, fun L M s h1 h2 => ?_⟩
  · unfold numbers
    split
    · exact fail_bad h _ _
    · split
      · exact fail_bad h _ _
      · exact hr.keep L s q h
  · unfold numbers
    split
    · show s.k ≤ (fail s 1 _).k; rw [fail_k]; exact Nat.le_refl _
    · split
      · show s.k ≤ (fail s 2 _).k; rw [fail_k]; exact Nat.le_refl _
      · exact hr.mono L s
  · unfold numbers
    split
    · show (fail s 1 _).k ≤ _; rw [fail_k]; exact h
    · split
      · show (fail s 2 _).k ≤ _; rw [fail_k]; exact h
      · exact hr.le L s h
  · unfold numbers at h4
    split at h4
    · simp only [fail, h1] at h4; simp at h4; omega
    · split at h4
      · simp only [fail, h1] at h4; simp at h4; omega
      · exact hr.placed L s E p h1 h2 h3 h4
  · unfold numbers
    by_cases hn : many < 0
    · simp only [if_pos hn]; exact ⟨fun _ => by trivial, fun _ _ h _ => h⟩
    · simp only [if_neg hn]
      by_cases hl : (left L.length s : Int) / j < many
      · simp only [if_pos hl]
        refine ⟨fun h => ?_, fun E p h h' => ?_⟩
        · simp only [fail, h1] at h; cases h
        · simp only [fail, h1] at h; simp at h; omega
      · have hl2 : ¬ (left (L ++ M).length s : Int) / j < many := by
          have e1 : left L.length s ≤ left (L ++ M).length s := by unfold left; rw [h1]; simp; omega
          have e2 : (left L.length s : Int) / j ≤ (left (L ++ M).length s : Int) / j := by
            rcases Nat.eq_zero_or_pos j with rfl | hj
            · simp
            · exact Int.ediv_le_ediv (by omega) (by omega)
          omega
        simp only [if_neg hl, if_neg hl2]
        exact hr.ahead L M s h1 h2
theorem good_signedM (m : Nat) : Good a (signedM m) := good_loop good_signed m
theorem good_sym (p : Int) : Good a (symM p) := good_bind (good_num 1) fun _ => good_bind (good_numbers _ _) fun _ => good_ret _
theorem good_symbols (m : Nat) (p : Int) : Good a (symbolsM m p) := good_loop (good_sym p) m
theorem good_if {c : Prop} [Decidable c] {m n : RM α} (h1 : Good a m) (h2 : Good a n) : Good a (if c then m else n) := by
  split
  · exact h1
  · exact h2
theorem good_repM (below : Int) : Good a (repM below) := by
  show Good a (withK fun k => bind (num 1) (fun x => bind (num 2) fun t => bind (if below ≤ x then failM 5 k else ret ()) fun _ => ret (x, t)))
  exact good_withK fun k c h1 h2 => good_bind (good_num 1) fun x => good_bind (good_num 2) fun t => good_bind (good_if (good_failM 5 k (by omega)) (good_ret _)) fun _ => good_ret _
theorem good_reps (m : Nat) (below : Int) : Good a (repsM m below) := good_loop (good_repM below) m
theorem good_stream (m : Nat) (below : Int) : Good a (streamM m below) := by
  have e : streamM m below = withK fun k => bind (take ((((Tz.few below * m : Nat) : Int) + 8 - 1) / 8)) fun D L s' => match s'.bad with
    | some _ => (D, s')
    | none => (if Tz.few below = 0 then ret D else if (List.range m).any (fun i => decide (below ≤ Tz.symv D (Tz.few below) i)) then bind (failM 5 k) fun _ => ret D else ret D : RM (List Int)) L s' := by
    funext L s
    obtain ⟨D, k', bad, hr⟩ : ∃ D k' bad, take ((((Tz.few below * m : Nat) : Int) + 8 - 1) / 8) L s = (D, ⟨k', bad⟩) := ⟨_, _, _, rfl⟩
    unfold streamM withK bind
    simp only [hr]
    cases bad with
    | some q => rfl
    | none =>
      simp only
      by_cases h1 : Tz.few below = 0
      · simp only [if_pos h1]; rfl
      · by_cases h2 : ((List.range m).any fun i => decide (below ≤ Tz.symv D (Tz.few below) i)) = true
        · simp only [if_neg h1, if_pos h2]; rfl
        · simp only [if_neg h1, if_neg h2]; rfl
  rw [e]
  exact good_withK fun k c h1 h2 => good_bind (good_take _) fun D => good_unless (good_if (good_ret _) (good_if (good_bind (good_failM 5 k (by omega)) fun _ => good_ret _) (good_ret _))) D
theorem good_item {f : RM Int} (hf : Good a f) : Good a (itemM f) := good_bind hf fun _ => good_bind (good_data 1) fun _ => good_ret _
/-- a check at the end -/
theorem good_check (x : α) (q : Nat → Prop) [DecidablePred q] (at_ : Int) (h : 0 ≤ at_ ∧ at_ ≤ a) : Good a (fun _ s => (x, if q s.k then s else fail s 4 at_)) := by
  have e : (fun _ s => (x, if q s.k then s else fail s 4 at_) : RM α) = withK fun k => if q k then ret x else bind (failM 4 at_) fun _ => ret x := by
    funext L s
    unfold withK
    by_cases hq : q s.k
    · simp only [if_pos hq]; rfl
    · simp only [if_neg hq]; rfl
  rw [e]
  exact good_withK fun k c h1 h2 => good_if (good_ret _) (good_bind (good_failM 4 at_ (by omega)) fun _ => good_ret _)
theorem good_items {f : RM Int} (hf : ∀ c, Good c f) (at_ : Int) (h : 0 ≤ at_ ∧ at_ ≤ a) : Good a (itemsM f at_) := by
  have e : itemsM f at_ = bind (num 2) fun n => withK fun k1 => bind (num 1) fun many => bind (loop (itemM f) many.toNat) fun l _ s3 => (l, if (s3.k : Int) - k1 = n then s3 else fail s3 4 at_) := by
    funext L s
    unfold itemsM withK bind
    simp only
    split <;> rfl
  rw [e]
  exact good_bind (good_num 2) fun n => good_withK fun k c h1 h2 => good_bind (good_num 1) fun many => good_bind (good_loop (good_item (hf c)) _) fun l => good_check l (fun k3 => (k3 : Int) - k = n) at_ (by omega)
theorem good_pure : Good a pureM := good_bind (good_num 1) fun _ => good_bind (good_num 2) fun _ => good_bind (good_data 3) fun _ => good_ret _
theorem good_level : Good a levelM := by
  show Good a (bind (fixed 1) fun _ => withK fun k1 => bind (num 1) (fun u => bind (if 1 < u then failM 4 k1 else ret ()) fun _ => ret u))
  exact good_bind (good_fixed 1) fun _ => good_withK fun k c h1 h2 => good_bind (good_num 1) fun u => good_bind (good_if (good_failM 4 k (by omega)) (good_ret _)) fun _ => good_ret _
theorem good_glued : Good a gluedM := by
  have e : gluedM = withK fun k => bind (take 9) fun d L s1 => match s1.bad with
    | some _ => (d, s1)
    | none => (if d.take 7 = [88, 84, 97, 112, 101, 33, 26] then ret d else bind (failM 3 k) fun _ => ret d : RM (List Int)) L s1 := by
    funext L s
    obtain ⟨D, k', bad, hr⟩ : ∃ D k' bad, take 9 L s = (D, ⟨k', bad⟩) := ⟨_, _, _, rfl⟩
    unfold gluedM withK bind
    simp only [hr]
    cases bad with
    | some q => rfl
    | none =>
      simp only
      by_cases h1 : D.take 7 = [88, 84, 97, 112, 101, 33, 26]
      · simp only [if_pos h1]; rfl
      · simp only [if_neg h1]; rfl
  rw [e]
  exact good_withK fun k c h1 h2 => good_bind (good_take _) fun D => good_unless (good_if (good_ret _) (good_bind (good_failM 3 k (by omega)) fun _ => good_ret _)) D
theorem good_samples (at_ : Int) (h : 0 ≤ at_ ∧ at_ ≤ a) : Good a (samplesM at_) :=
  good_bind (good_num 4) fun _ => good_bind (good_num 2) fun _ => good_bind (good_num 3) fun _ => good_bind (good_num 1) fun _ => good_bind (good_num 4) fun _ => good_if (good_bind (good_failM 4 at_ h) fun _ => good_ret _) (good_bind (good_take _) fun _ => good_ret _)
theorem good_genA (ma pi sy : Int) : Good a (genA ma pi sy) := good_if (good_bind (good_symbols _ _) fun _ => good_bind (good_reps _ _) fun _ => good_ret _) (good_ret _)
theorem good_genB (co ze on : Int) : Good a (genB co ze on) := good_if (good_bind (good_symbols _ _) fun _ => good_bind (good_stream _ _) fun _ => good_ret _) (good_ret _)
theorem good_general (at_ : Int) (h : 0 ≤ at_ ∧ at_ ≤ a) : Good a (generalM at_) := by
  have e : generalM at_ = bind (num 4) fun q => withK fun k1 => bind (num 2) fun pa => bind (num 4) fun ma => bind (num 1) fun pi => bind (num 1) fun sy => bind (num 4) fun co => bind (num 1) fun ze => bind (num 1) fun on =>
      bind (genA ma pi sy) fun x => bind (genB co ze on) fun y _ s => ((⟨pa, pi, sy, co, ze, on, x.1, y.1, x.2, y.2⟩ : Gen), if (s.k : Int) - k1 = q then s else fail s 4 at_) := rfl
  rw [e]
  exact good_bind (good_num 4) fun q => good_withK fun k c h1 h2 => good_bind (good_num 2) fun _ => good_bind (good_num 4) fun _ => good_bind (good_num 1) fun _ => good_bind (good_num 1) fun _ => good_bind (good_num 4) fun _ => good_bind (good_num 1) fun _ => good_bind (good_num 1) fun _ => good_bind (good_genA _ _ _) fun _ => good_bind (good_genB _ _ _) fun _ => good_check _ (fun k3 => (k3 : Int) - k = q) at_ (by omega)
theorem good_sound (id at_ : Int) (h : 0 ≤ at_ ∧ at_ ≤ a) : Good a (soundM id at_) := by
  unfold soundM
  repeat' first
    | exact good_ret _
    | exact good_num _
    | exact good_data _
    | exact good_pure
    | exact good_numbers _ _
    | exact good_samples _ h
    | exact good_general _ h
    | refine good_bind ?_ (fun _ => ?_)
    | refine good_if ?_ ?_
theorem good_leads (id at_ : Int) (h : 0 ≤ at_ ∧ at_ ≤ a) : Good a (leadsM id at_) := by
  unfold leadsM
  repeat' first
    | exact good_ret _
    | exact good_num _
    | exact good_signedM _
    | exact good_items (fun c => good_signed) _ h
    | exact good_fixed _
    | exact good_level
    | refine good_bind ?_ (fun _ => ?_)
    | refine good_if ?_ ?_
theorem good_tells (id at_ : Int) (h : 0 ≤ at_ ∧ at_ ≤ a) : Good a (tellsM id at_) := by
  unfold tellsM
  repeat' first
    | exact good_ret _
    | exact good_num _
    | exact good_data _
    | exact good_take _
    | exact good_numbers _ _
    | exact good_items (fun c => good_num 1) _ h
    | exact good_glued
    | refine good_bind ?_ (fun _ => ?_)
    | refine good_if ?_ ?_
theorem good_block : Good a blockM := by
  show Good a (withK fun k => bind (num 1) fun id => bodyM id k)
  refine good_withK fun k c h1 h2 => good_bind (good_num 1) fun id => ?_
  unfold bodyM
  exact good_if (good_sound _ _ (by omega)) (good_if (good_leads _ _ (by omega)) (good_tells _ _ (by omega)))
end Rd
end Go.Proofs.Ytokidpajialgbaa
