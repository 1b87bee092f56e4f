/- A ROM that is put together: the plain law of any calls that fit. -/
import Derived.Test.YtnkjmmbhjhmgdaaAsmR
namespace Go.Proofs.Ytnkjmmbhjhmgdaa
set_option linter.unusedSimpArgs false
set_option linter.unusedVariables false
open Go.RowKit Go.Maps Go.Sort
def names (L : List OpL) : List ByteArray := L.filterMap fun o => if o.kind = 1 then some o.name else none
def refs (L : List OpL) : List ByteArray := L.filterMap fun o => if o.kind = 2 ∨ o.kind = 3 then some o.name else none
def nums (L : List OpL) : List Int := L.filterMap fun o => if o.kind = 4 then some o.num else none
def fixL (L : List OpL) : Nat := (L.map fun o => if o.kind = 4 then 0 else lenO o).sum
def marksAt : List OpL → Int → List (ByteArray × Int)
  | [], _ => []
  | o :: L, h => if o.kind = 1 then (o.name, h) :: marksAt L (h + lenO o) else marksAt L (h + lenO o)
theorem names_append (L K : List OpL) : names (L ++ K) = names L ++ names K := List.filterMap_append
theorem refs_append (L K : List OpL) : refs (L ++ K) = refs L ++ refs K := List.filterMap_append
theorem nums_append (L K : List OpL) : nums (L ++ K) = nums L ++ nums K := List.filterMap_append
theorem fixL_append (L K : List OpL) : fixL (L ++ K) = fixL L + fixL K := by unfold fixL; simp
theorem sumL_append (L K : List OpL) : sumL (L ++ K) = sumL L + sumL K := by unfold sumL; simp
theorem sumL_cons (o : OpL) (L : List OpL) : sumL (o :: L) = lenO o + sumL L := by unfold sumL; simp
theorem marks_names : ∀ (L : List OpL) (h : Int), (marksAt L h).map (·.1) = names L
  | [], h => rfl
  | o :: L, h => by
    unfold names marksAt
    have ih := marks_names L (h + lenO o)
    unfold names at ih
    by_cases k : o.kind = 1
    · simp [k, ih]
    · simp [k, ih]
theorem marks_append : ∀ (L K : List OpL) (h : Int), marksAt (L ++ K) h = marksAt L h ++ marksAt K (h + sumL L)
  | [], K, h => by simp [marksAt, sumL]
  | o :: L, K, h => by
    have ih := marks_append L K (h + lenO o)
    have e : h + lenO o + (sumL L : Int) = h + (sumL (o :: L) : Int) := by rw [sumL_cons]; push_cast; omega
    rw [e] at ih
    simp only [List.cons_append, marksAt]
    by_cases k : o.kind = 1
    · rw [if_pos k, if_pos k, ih]; rfl
    · rw [if_neg k, if_neg k, ih]
theorem marks_shift : ∀ (L : List OpL) (h b : Int), marksAt L (h + b) = (marksAt L h).map fun z => (z.1, z.2 + b)
  | [], h, b => rfl
  | o :: L, h, b => by
    have ih := marks_shift L (h + lenO o) b
    have e : h + b + (lenO o : Int) = h + lenO o + b := by omega
    simp only [marksAt, e, ih]
    by_cases k : o.kind = 1
    · rw [if_pos k, if_pos k]; rfl
    · rw [if_neg k, if_neg k]
theorem memZ_names (s : ByteArray) (Z : List (ByteArray × Int)) : memZ s Z = true ↔ s ∈ Z.map (·.1) := by
  unfold memZ
  rw [List.any_eq_true, List.mem_map]
  constructor
  · rintro ⟨z, hz, h⟩; exact ⟨z, hz, by simpa using h⟩
  · rintro ⟨z, hz, h⟩; exact ⟨z, hz, by simpa using h⟩
/-- the first run of calls that fit -/
theorem run1_ok : ∀ (L : List OpL) (Z : List (ByteArray × Int)) (h : Int), (∀ x ∈ nums L, mayB x = true) → (Z.map (·.1) ++ names L).Nodup → h + sumL L ≤ 65536 → run1 L Z h = (Z ++ marksAt L h, h + sumL L, 0)
  | [], Z, h, _, _, _ => by simp [run1, marksAt, sumL]
  | o :: L, Z, h, hd, hn, hs => by
    rw [sumL_cons] at hs ⊢
    have h1 : ¬ (o.kind = 4 ∧ mayB o.num = false) := fun ⟨k, e⟩ => by
      have := hd o.num (by unfold nums; simp [k])
      rw [this] at e; cases e
    have hd' : ∀ x ∈ nums L, mayB x = true := fun x hx => hd x (by
      unfold nums at hx ⊢
      rw [List.filterMap_cons]
      by_cases k : o.kind = 4
      · simp only [k, if_true]; exact List.mem_cons_of_mem _ hx
      · simp only [k, if_false]; exact hx)
    have h2 : ¬ (o.kind = 1 ∧ memZ o.name Z = true) := fun ⟨k, e⟩ => by
      have e2 := (memZ_names _ _).1 e
      have hm : o.name ∈ names (o :: L) := by unfold names; simp [k]
      exact (List.nodup_append.1 hn).2.2 _ e2 _ hm rfl
    simp only [run1, marksAt]
    rw [if_neg h1, if_neg h2, bytesL_len, if_neg (by push_cast at hs; omega)]
    by_cases k : o.kind = 1
    · simp only [k, if_true]
      rw [run1_ok L _ _ hd' (by
        have : names (o :: L) = o.name :: names L := by unfold names; simp [k]
        rw [this] at hn
        simpa using hn) (by push_cast at hs; omega)]
      simp
      omega
    · simp only [k, if_false]
      rw [run1_ok L _ _ hd' (by
        have : names (o :: L) = names L := by unfold names; simp [k]
        rw [this] at hn
        exact hn) (by push_cast at hs; omega)]
      simp
      omega
/-- distances that fit -/
def nearOk (Z : List (ByteArray × Int)) : List OpL → Int → Prop
  | [], _ => True
  | o :: L, h => (o.kind = 3 → -128 ≤ toZ o.name Z 0 - (h + 2) ∧ toZ o.name Z 0 - (h + 2) ≤ 127) ∧ nearOk Z L (h + lenO o)
theorem near_append (Z : List (ByteArray × Int)) : ∀ (L K : List OpL) (h : Int), nearOk Z L h → nearOk Z K (h + sumL L) → nearOk Z (L ++ K) h
  | [], K, h, _, hk => by simpa [sumL] using hk
  | o :: L, K, h, hl, hk => ⟨hl.1, near_append Z L K _ hl.2 (by
      have e : h + lenO o + (sumL L : Int) = h + (sumL (o :: L) : Int) := by rw [sumL_cons]; push_cast; omega
      rw [e]; exact hk)⟩
theorem near_none (Z : List (ByteArray × Int)) : ∀ (L : List OpL) (h : Int), (L.all fun o => !decide (o.kind = 3)) = true → nearOk Z L h
  | [], h, _ => trivial
  | o :: L, h, ha => by
    rw [List.all_cons, Bool.and_eq_true] at ha
    exact ⟨fun k => by simp [k] at ha, near_none Z L _ ha.2⟩
def nearB (Z : List (ByteArray × Int)) : List OpL → Int → Bool
  | [], _ => true
  | o :: L, h => (if o.kind = 3 then (match lookM Z o.name.data.toList with | some x => decide (-128 ≤ x - (h + 2) ∧ x - (h + 2) ≤ 127) | none => false) else true) && nearB Z L (h + lenO o)
theorem near_of (Z0 Z : List (ByteArray × Int)) (b : Int) (hd : ZDist Z) (hz : ∀ s x, lookM Z0 s = some x → lookM Z s = some (x + b)) :
    ∀ (L : List OpL) (h : Int), nearB Z0 L h = true → nearOk Z L (h + b)
  | [], h, _ => trivial
  | o :: L, h, hb => by
    simp only [nearB, Bool.and_eq_true] at hb
    refine ⟨fun k => ?_, ?_⟩
    · rw [if_pos k] at hb
      cases hl : lookM Z0 o.name.data.toList with
      | none => rw [hl] at hb; simp at hb
      | some x =>
        rw [hl] at hb
        have h2 := of_decide_eq_true hb.1
        rw [toZ_look o.name Z 0 hd _ (hz _ _ hl)]
        omega
    · have := near_of Z0 Z b hd hz L (h + lenO o) hb.2
      have e : h + b + (lenO o : Int) = h + lenO o + b := by omega
      rw [e]
      exact this
theorem look_left {Z1 Z2 : List (ByteArray × Int)} {s : List UInt8} {x : Int} (h : lookM Z1 s = some x) : lookM (Z1 ++ Z2) s = some x := by
  unfold lookM at h ⊢
  rw [List.find?_append]
  cases hf : Z1.find? (fun z => decide (z.1.data.toList = s)) with
  | none => rw [hf] at h; simp at h
  | some z => rw [hf] at h; simpa using h
theorem look_right {Z1 Z2 : List (ByteArray × Int)} {s : List UInt8} {x : Int} (hd : ZDist (Z1 ++ Z2)) (h : lookM Z2 s = some x) : lookM (Z1 ++ Z2) s = some x := by
  have h1 : Z1.find? (fun z => decide (z.1.data.toList = s)) = none := by
    rw [List.find?_eq_none]
    intro z hz e
    have e1 : z.1.data.toList = s := by simpa using e
    unfold lookM at h
    cases hf : Z2.find? (fun z => decide (z.1.data.toList = s)) with
    | none => rw [hf] at h; simp at h
    | some y =>
      have hy := List.find?_some hf
      have hym := List.mem_of_find?_eq_some hf
      have e2 : y.1.data.toList = s := by simpa using hy
      have := (List.pairwise_append.1 hd).2.2 z hz y hym
      exact this (ba_iff.1 (e1.trans e2.symm))
  unfold lookM at h ⊢
  rw [List.find?_append, h1]
  simpa using h
theorem look_shift (Z : List (ByteArray × Int)) (b : Int) (s : List UInt8) (x : Int) (h : lookM Z s = some x) : lookM (Z.map fun z => (z.1, z.2 + b)) s = some (x + b) := by
  unfold lookM at h ⊢
  rw [List.find?_map]
  cases hf : Z.find? (fun z => decide (z.1.data.toList = s)) with
  | none => rw [hf] at h; simp at h
  | some z =>
    rw [hf] at h
    have hf2 : Z.find? ((fun z => decide (z.1.data.toList = s)) ∘ fun z : ByteArray × Int => (z.1, z.2 + b)) = some z := hf
    rw [hf2]
    simp at h ⊢
    omega
theorem dist_marks (L : List OpL) (h : Int) (hn : (names L).Nodup) : ZDist (marksAt L h) := by
  rw [← marks_names L h] at hn
  unfold ZDist
  exact List.pairwise_map.1 hn
/-- the second run -/
theorem run2_ok (Z : List (ByteArray × Int)) : ∀ (L : List OpL) (out : List Int), (∀ s ∈ refs L, memZ s Z = true) → nearOk Z L out.length → (run2 0 Z L out).1 = 0 ∧ (run2 0 Z L out).2.length = out.length + sumL L
  | [], out, _, _ => by simp [run2, sumL]
  | o :: L, out, hr, hn => by
    have h1 : ¬ ((o.kind = 2 ∨ o.kind = 3) ∧ memZ o.name Z = false) := fun ⟨k, e⟩ => by
      have := hr o.name (by unfold refs; simp [k])
      rw [this] at e; cases e
    have hr' : ∀ s ∈ refs L, memZ s Z = true := fun x hx => hr x (by
      unfold refs at hx ⊢
      rw [List.filterMap_cons]
      by_cases k : o.kind = 2 ∨ o.kind = 3
      · simp only [k, if_true]; exact List.mem_cons_of_mem _ hx
      · simp only [k, if_false]; exact hx)
    have h2 : ¬ (o.kind = 3 ∧ (toZ o.name Z 0 - (0 + out.length + 2) < -128 ∨ 127 < toZ o.name Z 0 - (0 + out.length + 2))) := fun ⟨k, e⟩ => by
      have := hn.1 k
      omega
    simp only [run2]
    rw [if_neg h1, if_neg h2]
    have ih := run2_ok Z L (out ++ bytesL o (0 + out.length) Z) hr' (by
      rw [List.length_append, bytesL_len]
      have := hn.2
      push_cast
      exact this)
    refine ⟨ih.1, ?_⟩
    rw [ih.2, List.length_append, bytesL_len, sumL_cons]
    omega
/-- calls that fit: what comes of them -/
theorem calls_ok (L : List OpL) (hd : ∀ x ∈ nums L, mayB x = true) (hn : (names L).Nodup) (hr : ∀ s ∈ refs L, s ∈ names L) (hk : nearOk (marksAt L 0) L 0) (hs : sumL L ≤ 65536) :
    (L.foldl callF (newD 0)).here = sumL L ∧ (doneF (L.foldl callF (newD 0))).1 = 0 ∧ (doneF (L.foldl callF (newD 0))).2.length = sumL L := by
  obtain ⟨h1, h2, -, -⟩ := plain28 (org := 0) (by omega) L
  have r1 := run1_ok L [] 0 hd (by simpa using hn) (by omega)
  rw [List.nil_append] at r1
  have r2 := run2_ok (marksAt L 0) L [] (fun s hs => (memZ_names _ _).2 (by rw [marks_names]; exact hr s hs)) hk
  have hf : runF 0 L = (marksAt L 0, (sumL L : Int), (run2 0 (marksAt L 0) L []).2, (run2 0 (marksAt L 0) L []).1) := by
    unfold runF
    rw [r1, if_neg (by simp)]
    simp
  rw [hf] at h1 h2
  refine ⟨h2 r2.1, ?_, ?_⟩
  · rw [h1]; exact r2.1
  · rw [h1]; simpa using r2.2
theorem rounds_len : ∀ (f : Nat) (n : Int), 0 ≤ n → ((rounds f n).1.flatten.length : Int) ≤ 4 * (n / 3317 + 1) ∧ (n < 29 → (rounds f n).1 = [])
  | 0, n, h => by simp [rounds]; omega
  | f + 1, n, h => by
    by_cases h29 : n < 29
    · rw [rounds_end h29]; simp; omega
    · rw [rounds_step h29]
      have hk : roundK n = 255 ∧ 3331 ≤ n ∨ roundK n = (n - 16) / 13 := by unfold roundK; omega
      have hl : (roundB n).length = 4 := rfl
      have ih := rounds_len f (n - (13 * roundK n + 2)) (by unfold roundK; omega)
      refine ⟨?_, fun h => absurd h h29⟩
      simp only [List.flatten_cons, List.length_append]
      push_cast
      rcases hk with ⟨k1, k2⟩ | k1
      · rw [k1] at ih ⊢
        by_cases h3 : n - (13 * 255 + 2) < 29
        · rw [ih.2 h3]; simp; omega
        · have := ih.1; omega
      · rw [k1] at ih ⊢
        rw [ih.2 (by omega)]; simp; omega
theorem rounds_rest : ∀ (f : Nat) (n : Int), n.toNat < f → (rounds f n).2 < 29
  | 0, n, h => by omega
  | f + 1, n, h => by
    by_cases h29 : n < 29
    · rw [rounds_end h29]; exact h29
    · rw [rounds_step h29]
      exact rounds_rest f _ (by unfold roundK; omega)
theorem delay_len (n : Int) (h0 : 0 ≤ n) (h1 : n ≤ 65535) (o : OpL) (k : o.kind = 4) (e : o.num = n) : lenO o ≤ 100 := by
  unfold lenO bytesL
  rw [if_neg (by omega), if_neg (by omega), if_neg (by omega), if_pos k, e]
  have a := (rounds_len (n.toNat + 1) n h0).1
  have b := rounds_rest (n.toNat + 1) n (by omega)
  have ht : (tailL (rounds (n.toNat + 1) n).2 (0 + (headL n).length)).length ≤ 12 := by
    unfold tailL nextL zerosL
    split
    · simp; omega
    · split
      · simp; omega
      · split
        · simp; omega
        · simp; omega
  unfold waitL
  rw [List.length_append]
  have : (headL n).length = (rounds (n.toNat + 1) n).1.flatten.length := rfl
  omega
theorem sum_le : ∀ (L : List OpL), (∀ x ∈ nums L, 0 ≤ x ∧ x ≤ 65535) → sumL L ≤ fixL L + 100 * (nums L).length
  | [], _ => by simp [sumL]
  | o :: L, h => by
    rw [sumL_cons]
    by_cases k : o.kind = 4
    · have e1 : fixL (o :: L) = fixL L := by unfold fixL; simp [k]
      have e2 : nums (o :: L) = o.num :: nums L := by unfold nums; simp [k]
      rw [e2] at h ⊢
      rw [e1, List.length_cons]
      have h2 := h o.num (List.mem_cons_self ..)
      have := sum_le L (fun x hx => h x (List.mem_cons_of_mem _ hx))
      have := delay_len o.num h2.1 h2.2 o k rfl
      omega
    · have e1 : fixL (o :: L) = lenO o + fixL L := by unfold fixL; simp [k]
      have e2 : nums (o :: L) = nums L := by unfold nums; simp [k]
      rw [e2] at h ⊢
      rw [e1]
      have := sum_le L h
      omega
end Go.Proofs.Ytnkjmmbhjhmgdaa
