/- The plain law: what is put together is the document's. -/
import Derived.Test.YtnkjmmbhjhmgdaaAsmO
namespace Go.Proofs.Ytnkjmmbhjhmgdaa
set_option linter.unusedSimpArgs false
set_option linter.unusedVariables false
open Go.RowKit Go.Maps Go.Sort
/-- so many bytes are put behind, or it is too long -/
def Adds (d d' : AsmD) (l : List Int) : Prop := (d.here + l.length ≤ 65536 ∧ d' = { d with out := d.out ++ l }) ∨ (65536 < d.here + l.length ∧ d'.e = 8 ∧ d'.mks = d.mks)
theorem bytesF_bad {d : AsmD} (h : d.e ≠ 0) (l : List Int) : bytesF d l = d := by unfold bytesF; rw [if_pos h]
theorem adds_then {d d1 : AsmD} {l1 : List Int} (he : d.e = 0) (h : Adds d d1 l1) (l2 : List Int) : Adds d (bytesF d1 l2) (l1 ++ l2) := by
  rcases h with ⟨h1, rfl⟩ | ⟨h1, h2, h3⟩
  · unfold bytesF
    rw [if_neg (by simpa using he)]
    by_cases ho : 65536 < d.org + ((d.out ++ l1).length : Int) + l2.length
    · rw [if_pos ho]
      right
      refine ⟨?_, rfl, rfl⟩
      unfold AsmD.here
      simp only [List.length_append] at ho ⊢
      omega
    · rw [if_neg ho]
      left
      refine ⟨?_, by simp⟩
      unfold AsmD.here
      simp only [List.length_append] at ho ⊢
      omega
  · right
    rw [bytesF_bad (by omega)]
    refine ⟨?_, h2, h3⟩
    simp only [List.length_append]
    omega
theorem adds_nil (d : AsmD) (h : d.here ≤ 65536) : Adds d d [] := .inl ⟨by simpa using h, by simp⟩
theorem adds_bytes {d : AsmD} (he : d.e = 0) (h : d.here ≤ 65536) (l : List Int) : Adds d (bytesF d l) l := by
  have := adds_then he (adds_nil d h) l
  simpa using this
theorem adds_fold {d : AsmD} (he : d.e = 0) : ∀ (R : List (List Int)) {d1 : AsmD} {l1 : List Int}, Adds d d1 l1 → Adds d (R.foldl bytesF d1) (l1 ++ R.flatten)
  | [], d1, l1, h => by simpa using h
  | r :: R, d1, l1, h => by
    have := adds_fold he R (adds_then he h r)
    simpa [List.append_assoc] using this
theorem adds_next {d d1 : AsmD} {l1 : List Int} (he : d.e = 0) (h : Adds d d1 l1) : Adds d (nextF d1) (l1 ++ nextL (d.here + l1.length)) := by
  have h0 := h
  rcases h with ⟨h1, rfl⟩ | ⟨h1, h2, h3⟩
  · have := adds_then he h0 (nextL (d.here + l1.length))
    unfold nextF
    have e : AsmD.here { d with out := d.out ++ l1 } = d.here + l1.length := by unfold AsmD.here; simp; omega
    rw [e]
    exact this
  · unfold nextF
    rw [bytesF_bad (by omega)]
    right
    refine ⟨?_, h2, h3⟩
    simp only [List.length_append]
    omega
theorem adds_rest {d d1 : AsmD} {l1 : List Int} (he : d.e = 0) (h : Adds d d1 l1) (m : Int) : Adds d (restF d1 m) (l1 ++ tailL m (d.here + l1.length)) := by
  unfold restF tailL
  by_cases h1 : m % 4 = 1
  · rw [if_pos h1, if_pos h1]
    have := adds_then he (adds_then he (adds_next he h) [6, 0]) (zerosL ((m - 17) / 4))
    simpa [List.append_assoc] using this
  · rw [if_neg h1, if_neg h1]
    by_cases h2 : m % 4 = 2
    · rw [if_pos h2, if_pos h2]
      have := adds_then he (adds_next he h) (zerosL ((m - 10) / 4))
      simpa [List.append_assoc] using this
    · rw [if_neg h2, if_neg h2]
      by_cases h3 : m % 4 = 3
      · rw [if_pos h3, if_pos h3]
        have := adds_then he (adds_then he h [6, 0]) (zerosL ((m - 7) / 4))
        simpa [List.append_assoc] using this
      · rw [if_neg h3, if_neg h3]
        exact adds_then he h _
theorem adds_delay {d : AsmD} (he : d.e = 0) (h : d.here ≤ 65536) {n : Int} (hm : mayB n = true) : Adds d (delayF d n) (waitL n d.here) := by
  unfold delayF waitL
  rw [if_neg (by omega), if_neg (by rw [hm]; decide)]
  have h1 := adds_fold he (rounds (n.toNat + 1) n).1 (adds_nil d h)
  rw [List.nil_append] at h1
  exact adds_rest he h1 _
/-- a call's bytes, with nothing told -/
def preL (o : OpL) (h : Int) : List Int :=
  if o.kind = 0 then o.b else if o.kind = 2 then o.b ++ [0, 0] else if o.kind = 3 then [codeL o.b, 0] else if o.kind = 4 then waitL o.num h else []
def tdOf (o : OpL) (n : Nat) : List (ByteArray × Int × Bool) :=
  if o.kind = 2 then [(o.name, ((n + o.b.length : Nat) : Int), false)] else if o.kind = 3 then [(o.name, ((n + 1 : Nat) : Int), true)] else []
theorem preL_len (o : OpL) (h : Int) : (preL o h).length = lenO o := by
  rw [← bytesL_len o h []]
  unfold preL bytesL
  split
  · rfl
  · split
    · simp
    · split
      · simp
      · split <;> rfl
def lookM (Z : List (ByteArray × Int)) (t : List UInt8) : Option Int := (Z.find? fun z => decide (z.1.data.toList = t)).map (·.2)
def ZDist (Z : List (ByteArray × Int)) : Prop := Z.Pairwise fun a b => a.1 ≠ b.1
theorem ba_iff {a b : ByteArray} : a.data.toList = b.data.toList ↔ a = b := ⟨fun h => ByteArray.ext (Array.toList_inj.1 h), fun h => by rw [h]⟩
theorem lookM_mem (Z : List (ByteArray × Int)) (s : ByteArray) : (lookM Z s.data.toList).isSome = memZ s Z := by
  induction Z with
  | nil => rfl
  | cons z Z ih =>
    unfold lookM memZ at *
    rw [List.find?_cons, List.any_cons]
    by_cases h : z.1 = s
    · simp [h]
    · have h2 : ¬ z.1.data.toList = s.data.toList := fun e => h (ba_iff.1 e)
      simp only [h2, h, decide_false, Bool.false_or]
      exact ih
theorem toZ_none (s : ByteArray) : ∀ (Z : List (ByteArray × Int)) (d : Int), memZ s Z = false → toZ s Z d = d
  | [], d, _ => rfl
  | z :: Z, d, h => by
    unfold memZ at h
    rw [List.any_cons, Bool.or_eq_false_iff] at h
    have h1 : ¬ z.1 = s := by simpa using h.1
    simp only [toZ]
    rw [if_neg h1]
    exact toZ_none s Z d h.2
theorem toZ_look (s : ByteArray) : ∀ (Z : List (ByteArray × Int)) (d : Int), ZDist Z → ∀ x, lookM Z s.data.toList = some x → toZ s Z d = x
  | [], d, _, x, h => by simp [lookM] at h
  | z :: Z, d, hd, x, h => by
    have hd2 := List.pairwise_cons.1 hd
    simp only [toZ]
    by_cases hz : z.1 = s
    · rw [if_pos hz]
      have hm : memZ s Z = false := by
        unfold memZ
        rw [List.any_eq_false]
        intro y hy
        simpa using fun e => hd2.1 y hy (by rw [hz, e])
      rw [toZ_none s Z _ hm]
      unfold lookM at h
      rw [List.find?_cons] at h
      simp [hz] at h
      exact h
    · rw [if_neg hz]
      refine toZ_look s Z d hd2.2 x ?_
      unfold lookM at h ⊢
      rw [List.find?_cons] at h
      have h2 : ¬ z.1.data.toList = s.data.toList := fun e => hz (ba_iff.1 e)
      simpa [h2] using h
theorem lookM_snoc (Z : List (ByteArray × Int)) (s : ByteArray) (x : Int) (hm : memZ s Z = false) (t : List UInt8) : lookM (Z ++ [(s, x)]) t = if t = s.data.toList then some x else lookM Z t := by
  unfold lookM
  rw [List.find?_append]
  by_cases ht : t = s.data.toList
  · rw [if_pos ht]
    have h1 := lookM_mem Z s
    rw [hm] at h1
    unfold lookM at h1
    subst ht
    have h2 : Z.find? (fun z => decide (z.1.data.toList = s.data.toList)) = none := by
      cases hf : Z.find? (fun z => decide (z.1.data.toList = s.data.toList)) with
      | none => rfl
      | some y => rw [hf] at h1; simp at h1
    rw [h2]
    simp
  · rw [if_neg ht]
    have h3 : ¬ s.data.toList = t := fun e => ht e.symm
    simp [List.find?_cons, h3]
theorem ZDist.snoc {Z : List (ByteArray × Int)} (h : ZDist Z) {s : ByteArray} (x : Int) (hm : memZ s Z = false) : ZDist (Z ++ [(s, x)]) := by
  unfold ZDist at *
  rw [List.pairwise_append]
  refine ⟨h, by simp, fun a ha b hb => ?_⟩
  simp at hb
  subst hb
  intro e
  have := List.any_eq_false.1 hm a ha
  simp at this
  exact this e
def preAll : List OpL → Int → List Int
  | [], _ => []
  | o :: L, h => preL o h ++ preAll L (h + lenO o)
def tdAll : List OpL → Nat → List (ByteArray × Int × Bool)
  | [], _ => []
  | o :: L, n => tdOf o n ++ tdAll L (n + lenO o)
/-- how both stand -/
structure Corr (org : Int) (d : AsmD) (Z : List (ByteArray × Int)) (h : Int) : Prop where
  e : d.e = 0
  org : d.org = org
  here : d.org + d.out.length = h
  le : h ≤ 65536
  mks : ∀ t, d.mks t = lookM Z t
  dist : ZDist Z
end Go.Proofs.Ytnkjmmbhjhmgdaa
