/- Texts that are laid together: G45. -/
import Derived.Test.YtokidpajialgbaaQSpWI
import Derived.Test.YtokidpajialgbaaQG42
import Derived.Test.YtokidpajialgbaaQG03
import Derived.Test.YtokidpajialgbaaQSpPC
namespace Go.Proofs.Ytokidpajialgbaa
set_option linter.unusedSimpArgs false
set_option linter.unusedVariables false
open Go.RowKit
def fileFrom : List TB → List Int → Option (List Int)
  | [], L => some L
  | B :: t, L => if 1048576 < (L ++ bytB B).length then none else fileFrom t (L ++ bytB B)
def fileHead (maj min : Int) : List Int := headB ++ leL 1 [maj, min]
def badIdx (l : List TB) : Nat := l.findIdx (fun B => !mayB B)
def outR : Option (List Int) → Option (List Int) × Int × Int
  | some L => (some L, 0, 0)
  | none => (none, -1, 8)
/-- a tape as a file: the bytes, the number, the error -/
def writeR (maj min : Int) (l : List TB) : Option (List Int) × Int × Int :=
  if fitS 255 [maj, min] = false then (none, -1, 1) else
  if 4096 < l.length then (none, -1, 8) else
  if badIdx l < l.length then (none, badIdx l, 1) else
  if (Tz.firstW (Tz.wrongB l) l.length).2 ≠ 0 then (none, (Tz.firstW (Tz.wrongB l) l.length).1, (Tz.firstW (Tz.wrongB l) l.length).2) else
  outR (fileFrom l (fileHead maj min))
def FileAt (w' : World) (base : Nat) (v : Value) : Option (List Int) → Prop
  | none => v = .slice none 0 0
  | some L => RowM w' base v L.length (L.map (.int .u8)) ∧ L.length ≤ 1048576
def WriteP (R : Option (List Int) × Int × Int) (w : World) (e : Ending) (w' : World) : Prop := ∃ v, e = .returned (.tuple #[v, .int .i64 R.2.1, .int .i64 R.2.2]) ∧ FileAt w' w.heap.size v R.1 ∧ Below w.heap.size w w'
theorem badIdx_at {l : List TB} {k : Nat} {B : TB} (h : (l.take k).all mayB = true) (hx : l[k]? = some B) (hb : mayB B = false) : badIdx l = k := by
  have hk : k < l.length := (List.getElem?_eq_some_iff.1 hx).1
  have hB : l[k] = B := (List.getElem?_eq_some_iff.1 hx).2
  unfold badIdx
  rw [List.findIdx_eq hk]
  refine ⟨by rw [hB, hb]; rfl, fun j hj => ?_⟩
  have := List.all_eq_true.1 h l[j] (by rw [List.mem_take_iff_getElem]; exact ⟨j, by omega, rfl⟩)
  rw [this]; rfl
theorem badIdx_all {l : List TB} (h : l.all mayB = true) : badIdx l = l.length := by
  unfold badIdx
  rw [List.findIdx_eq_length]
  intro x hx
  rw [List.all_eq_true.1 h x hx]; rfl
theorem fileFrom_step {l : List TB} {k : Nat} {B : TB} (hx : l[k]? = some B) (L : List Int) : fileFrom (l.drop k) L = if 1048576 < (L ++ bytB B).length then none else fileFrom (l.drop (k + 1)) (L ++ bytB B) := by
  have h2 : l.drop k = B :: l.drop (k + 1) := by
    have := List.drop_eq_getElem?_toList_append (l := l) (i := k)
    rw [hx] at this; simpa using this
  rw [h2]; rfl
theorem blksO_of {w : World} {g o c : Nat} {l : List TB} (h : BlksV w (.slice (some ⟨g, o, none⟩) l.length c) l) (hm : l.all mayB = true) : BlksO w g o l := by
  obtain ⟨A, c', e, -, -, h4⟩ := h
  injection e with e1 e2 e3
  intro i B hi
  obtain ⟨g', o', cs, h5, h6, h7⟩ := h4 i B hi
  rw [h5] at e1
  injection e1 with e1
  injection e1 with e1 e2 e3
  subst e1 e2
  obtain ⟨s1, s2, s3, -⟩ := may_small (List.all_eq_true.1 hm B (List.mem_of_getElem? hi))
  have hl := h7.len
  have ho := h7.one2
  obtain ⟨hwf, d, t, it, p, s, r, rfl, hd, ⟨At, ct, rfl, ht1, ht2⟩, ⟨Ai, ci, rfl, hi1, hi2, hi3⟩, hp, hs, hr⟩ := h7
  refine ⟨_, _, _, h6, ⟨hl, rfl, rfl, rfl, ho⟩, ⟨At, ct, rfl, ht1, trivial⟩, ?_, by omega, by omega⟩
  cases hBI : B.items with
  | nil => exact ⟨0, 0, ci, .inl ⟨rfl, Ai, rfl⟩⟩
  | cons x t2 =>
    obtain ⟨-, gi, oi, rv, hAi, -, -⟩ := hi3 0 x (by rw [hBI]; rfl)
    refine ⟨gi, oi, ci, .inr ⟨by rw [hAi]; simp, fun k y hk => ?_⟩⟩
    rw [List.getElem?_map, ← hBI] at hk
    cases hy : B.items[k]? with
    | none => rw [hy] at hk; cases hk
    | some z =>
      rw [hy] at hk
      obtain ⟨-, gi2, oi2, rv2, hAi2, h8, ⟨A9, c9, h9, -⟩⟩ := hi3 k z hy
      rw [hAi] at hAi2
      injection hAi2 with hAi2
      injection hAi2 with q1 q2 q3
      subst q1 q2
      have : z.1 = y := by simpa using hk
      subst this
      rw [h9] at h8
      exact ⟨_, _, _, h8⟩
theorem soundO_any {w : World} {A : Option Addr} {n c : Nat} {l : List TB} (h : BlksV w (.slice A n c) l) (hn : l.length = n) (hm : l.all mayB = true) (h1 : n ≤ 4096) : Calls Try.prog 24 #[.slice A n c] w (FirstP (Tz.wrongB l) n w) := by
  by_cases h0 : n = 0
  · refine soundO 0 0 A n c l w (.inl h0) ?_ hn (by omega)
    intro i B hi
    rw [List.eq_nil_of_length_eq_zero (hn.trans h0)] at hi
    simp at hi
  · have h' := h
    obtain ⟨A', c', e, -, -, h4⟩ := h'
    obtain ⟨B, hB⟩ : ∃ B, l[0]? = some B := ⟨_, List.getElem?_eq_getElem (by omega)⟩
    obtain ⟨g, o, cs, h5, -, -⟩ := h4 0 B hB
    injection e with e1 e2 e3
    subst hn
    rw [e1, h5]
    rw [e1, h5] at h
    exact soundO g o _ l.length c l w (.inr rfl) (blksO_of h hm) rfl (by omega)
end Go.Proofs.Ytokidpajialgbaa
namespace Go.Proofs.Ytokidpajialgbaa
set_option linter.unusedSimpArgs false
set_option linter.unusedVariables false
namespace Rd
theorem reads_body {B : TB} (at_ : Int) (h : mayB B = true) : Reads (bodyM B.id at_) (tailL B) B := by
  by_cases h16 : B.id = 16
  · exact reads_body_16 at_ h16 h
  by_cases h17 : B.id = 17
  · exact reads_body_17 at_ h17 h
  by_cases h18 : B.id = 18
  · exact reads_body_18 at_ h18 h
  by_cases h19 : B.id = 19
  · exact reads_body_19 at_ h19 h
  by_cases h20 : B.id = 20
  · exact reads_body_20 at_ h20 h
  by_cases h21 : B.id = 21
  · exact reads_body_21 at_ h21 h
  by_cases h24 : B.id = 24
  · exact reads_body_24 at_ h24 h
  by_cases h25 : B.id = 25
  · exact reads_body_25 at_ h25 h
  by_cases h32 : B.id = 32
  · exact reads_body_32 at_ h32 h
  by_cases h34 : B.id = 34
  · exact reads_body_34 at_ h34 h
  by_cases h37 : B.id = 37
  · exact reads_body_37 at_ h37 h
  by_cases h39 : B.id = 39
  · exact reads_body_39 at_ h39 h
  by_cases h33 : B.id = 33
  · exact reads_body_33 at_ h33 h
  by_cases h48 : B.id = 48
  · exact reads_body_48 at_ h48 h
  by_cases h35 : B.id = 35
  · exact reads_body_35 at_ h35 h
  by_cases h36 : B.id = 36
  · exact reads_body_36 at_ h36 h
  by_cases h38 : B.id = 38
  · exact reads_body_38 at_ h38 h
  by_cases h40 : B.id = 40
  · exact reads_body_40 at_ h40 h
  by_cases h42 : B.id = 42
  · exact reads_body_42 at_ h42 h
  by_cases h43 : B.id = 43
  · exact reads_body_43 at_ h43 h
  by_cases h49 : B.id = 49
  · exact reads_body_49 at_ h49 h
  by_cases h50 : B.id = 50
  · exact reads_body_50 at_ h50 h
  by_cases h51 : B.id = 51
  · exact reads_body_51 at_ h51 h
  by_cases h52 : B.id = 52
  · exact reads_body_52 at_ h52 h
  by_cases h90 : B.id = 90
  · exact reads_body_90 at_ h90 h
  by_cases h53 : B.id = 53
  · exact reads_body_53 at_ h53 h
  have hid : ∀ k ∈ ([16, 17, 18, 19, 20, 21, 24, 25, 32, 34, 37, 39, 42, 33, 48, 35, 36, 38, 40, 50, 43, 49, 51, 52, 53, 90] : List Int), B.id ≠ k := fun k hk => by simp only [List.mem_cons, List.not_mem_nil, or_false] at hk; omega
  obtain ⟨e, h1⟩ := may_def hid h
  have h2 := fit_one h1
  have hs : isSnd B.id = false := by simp [isSnd]; omega
  have e1 : tailL B = leB (B.data.length : Int) 4 ++ B.data := by
    unfold tailL
    rw [hs]
    show telL B = _
    unfold telL; simp only [h34, h37, h39, h33, h48, h35, h36, h38, h40, h42, h43, h49, h50, h51, h52, h90, h53, if_false]
  have e2 : bodyM B.id at_ = bind (dataM 4) fun x1 => ret ({ id := B.id, data := x1 } : TB) := by
    simp only [bodyM, tellsM]; simp only [h16, h17, h18, h19, h20, h21, h24, h25, h32, h34, h37, h39, h33, h48, h35, h36, h38, h40, h42, h43, h49, h50, h51, h52, h90, h53, or_self, if_false]
  rw [e1, e2]
  refine Reads.to ?_ e
  exact Reads.bind0 (reads_data _ 4 (by simp; omega)) (Reads.ret _)
theorem reads_block {B : TB} (h : mayB B = true) : Reads blockM (bytB B) B := fun L rest k hd => by
  have hi := may_id h
  exact Reads.bind (f := fun id => bodyM id (k : Int)) (reads_num B.id 1 hi.1 (by simp; omega)) (reads_body (k : Int) h) L rest k hd
theorem bytB_pos (B : TB) : 1 ≤ (bytB B).length := by unfold bytB; rw [List.length_append, leB_len]; omega
theorem reads_blocks : ∀ (l : List TB) (f cnt : Nat) (L : List Int) (k : Nat), l.all mayB = true → l.length < f → cnt + l.length ≤ 4096 → L.drop k = l.flatMap bytB → ∃ st, blocksM f cnt L ⟨k, none⟩ = ((l, st), ⟨k + (l.flatMap bytB).length, none⟩)
  | [], f, cnt, L, k, _, hf, _, hd => by
    obtain ⟨f, rfl⟩ : ∃ g, f = g + 1 := ⟨f - 1, by simp at hf; omega⟩
    have hl : L.length - k = 0 := by have := congrArg List.length hd; simpa using this
    refine ⟨[], ?_⟩
    unfold blocksM
    rw [if_pos (show left L.length ⟨k, none⟩ = 0 from hl)]
    simp
  | B :: l, f, cnt, L, k, hm, hf, hc, hd => by
    obtain ⟨f, rfl⟩ : ∃ g, f = g + 1 := ⟨f - 1, by simp at hf; omega⟩
    rw [List.all_cons, Bool.and_eq_true] at hm
    simp only [List.length_cons] at hf hc
    have hb := reads_block hm.1 L (l.flatMap bytB) k (by rw [hd]; rfl)
    obtain ⟨st, hst⟩ := reads_blocks l f (cnt + 1) L (k + (bytB B).length) hm.2 (by omega) (by omega) (drop_next (by rw [hd]; rfl))
    refine ⟨(k : Int) :: st, ?_⟩
    unfold blocksM
    rw [if_neg ?_, if_neg (by omega), hb]
    · simp only
      rw [hst]
      simp only [List.flatMap_cons, List.length_append, Nat.add_assoc]
    · have hl := drop_len (bs := bytB B) (rest := l.flatMap bytB) (by rw [hd]; rfl)
      have := bytB_pos B
      show ¬ (L.length - k = 0)
      omega
end Rd
theorem fileFrom_eq : ∀ (l : List TB) (L0 L : List Int), fileFrom l L0 = some L → L = L0 ++ l.flatMap bytB
  | [], L0, L, h => by simp [fileFrom] at h; simp [h]
  | B :: t, L0, L, h => by
    unfold fileFrom at h
    split at h
    · cases h
    · rw [fileFrom_eq t _ L h]; simp
theorem outR_some {o : Option (List Int)} {L : List Int} {n e : Int} (h : outR o = (some L, n, e)) : o = some L := by
  cases o with
  | none => cases h
  | some L' => injection h
/-- what a file that was written tells -/
theorem writeR_some {maj min : Int} {l : List TB} {L : List Int} {n e : Int} (h : writeR maj min l = (some L, n, e)) :
    (0 ≤ maj ∧ maj ≤ 255) ∧ (0 ≤ min ∧ min ≤ 255) ∧ l.length ≤ 4096 ∧ l.all mayB = true ∧ (Tz.firstW (Tz.wrongB l) l.length).2 = 0 ∧ L = fileHead maj min ++ l.flatMap bytB := by
  unfold writeR at h
  by_cases h1 : fitS 255 [maj, min] = false
  · rw [if_pos h1] at h; cases h
  rw [if_neg h1] at h
  by_cases h2 : 4096 < l.length
  · rw [if_pos h2] at h; cases h
  rw [if_neg h2] at h
  by_cases h3 : badIdx l < l.length
  · rw [if_pos h3] at h; cases h
  rw [if_neg h3] at h
  by_cases h4 : (Tz.firstW (Tz.wrongB l) l.length).2 ≠ 0
  · rw [if_pos h4] at h; cases h
  rw [if_neg h4] at h
  have h5 := fileFrom_eq l _ L (outR_some h)
  simp [fitS] at h1
  refine ⟨by omega, by omega, by omega, ?_, Decidable.not_not.1 h4, h5⟩
  rw [List.all_eq_true]
  intro x hx
  have h6 : badIdx l = l.length := Nat.le_antisymm (List.findIdx_le_length) (by omega)
  unfold badIdx at h6
  rw [List.findIdx_eq_length] at h6
  have := h6 x hx
  simpa using this
theorem parse_file {maj min : Int} {l : List TB} {L : List Int} {n e : Int} (h : writeR maj min l = (some L, n, e)) (hL : L.length ≤ 1048576) : Rd.parseD L = .tape maj min l := by
  obtain ⟨h1, h2, h3, h4, h5, h6⟩ := writeR_some h
  have hd8 : L.drop 8 = leB maj 1 ++ (leB min 1 ++ l.flatMap bytB) := by rw [h6]; unfold fileHead headB; simp [leL]
  have ht8 : L.take 8 = Rd.sign8 := by rw [h6]; unfold fileHead headB Rd.sign8; simp
  have hl8 : ¬ L.length < 8 := by rw [h6]; unfold fileHead headB; simp [leL, leB_len]
  have hn1 := Rd.reads_num maj 1 h1.1 (by simp; omega) L _ 8 hd8
  have hd9 := Rd.drop_next hd8
  have hn2 := Rd.reads_num min 1 h2.1 (by simp; omega) L _ _ hd9
  have hd10 := Rd.drop_next hd9
  simp only [leB_len] at hn1 hn2 hd10
  obtain ⟨st, hst⟩ := Rd.reads_blocks l (L.length + 1) 0 L 10 h4 (by
    have h8 : l.length ≤ (l.flatMap bytB).length := by
      clear h h3 h4 h5 h6 hd8 ht8 hn1 hd9 hn2 hd10
      induction l with
      | nil => simp
      | cons B t ih => simp only [List.length_cons, List.flatMap_cons, List.length_append]; have := Rd.bytB_pos B; omega
    have : L.length = (fileHead maj min).length + (l.flatMap bytB).length := by rw [h6, List.length_append]
    omega) (by omega) hd10
  unfold Rd.parseD
  rw [if_neg (by omega), if_neg (by rintro (h9 | h9); exact hl8 h9; exact h9 ht8)]
  unfold Rd.s8
  rw [hn1]
  simp only
  rw [hn2]
  simp only
  rw [hst]
  unfold Rd.restD
  simp only
  unfold Rd.soundD
  rw [if_pos h5]
end Go.Proofs.Ytokidpajialgbaa
