/- The plain law of OpAll: four bytes or more are an instruction, and it has a text. -/
import Derived.Test.YtjkakmmhbciilaaOpFZ
import Derived.Test.YtjkakmmhbciilaaOpX
namespace Go.Proofs.Ytjkakmmhbciilaa
set_option linter.unusedSimpArgs false
set_option linter.unusedVariables false
open Go.RowKit
/-- begins with a letter -/
def Lit1 : List Nat → Prop
  | [] => False
  | a :: _ => a < 256
instance (t : List Nat) : Decidable (Lit1 t) := by cases t <;> (unfold Lit1; infer_instance)
theorem lit1_ne (ρ : Nat → List UInt8) : ∀ t, Lit1 t → render ρ t ≠ []
  | [], h => h.elim
  | a :: r, h => by
    have h : a < 256 := h
    rw [render_cons, if_pos h]
    simp
theorem plain_lit : ∀ k < 256, k ≠ 203 → Lit1 (opK false [105, 120] (k : Nat)) ∧ Lit1 (opK false [105, 121] (k : Nat)) ∧ Lit1 (opK true [105, 120] (k : Nat)) ∧ Lit1 (opK true [105, 121] (k : Nat)) := by decide +kernel
theorem more_lit : ∀ k < 256, Lit1 (moreK [105, 120] (k : Nat)) ∧ Lit1 (moreK [105, 121] (k : Nat)) := by decide +kernel
theorem mem_args : ∀ k < 256, Mi.memS (k : Nat) = true → Mi.argsS (k : Nat) ≤ 1 := by decide +kernel
theorem bitsT_ne (m : List UInt8) (x y : Int) : bitsT id m x y ≠ [] := by
  unfold bitsT
  split
  · simp
  · split
    · simp
    · split <;> simp
theorem showS_ne (s ix c d n ln pc : Int) (h0 : 0 ≤ c) (h1 : c ≤ 255) (hs : s = 0 ∧ c ≠ 203 ∨ s = 1 ∨ s = 2 ∨ s = 3 ∨ s = 4) : showS s ix c d n ln pc ≠ [] := by
  have eN : rho ix d n ln pc 1000 = hxS 2 n := rfl
  have eW : rho ix d n ln pc 1001 = hxS 4 n := rfl
  have eE : rho ix d n ln pc 1002 = targetS n ln pc := rfl
  have eA : rho ix d n ln pc 1003 = awayS ix d := rfl
  obtain ⟨k, hk, rfl⟩ : ∃ k : Nat, k < 256 ∧ c = (k : Int) := ⟨c.toNat, by omega, by omega⟩
  unfold showS showT
  rcases hs with ⟨rfl, hc⟩ | rfl | rfl | rfl | rfl
  · rw [if_neg (by decide), if_neg (by decide), if_neg (by decide), if_neg (by decide), if_pos rfl, ← eN, ← eW, ← eE, ← eA, ← plainT_render]
    obtain ⟨p1, p2, p3, p4⟩ := plain_lit k hk (by omega)
    refine lit1_ne _ _ ?_
    show Lit1 (opK (hasI 0 ix) (ixn ix) k)
    cases hasI 0 ix <;> rcases ixn_two ix with h | h <;> rw [h] <;> assumption
  · rw [if_pos rfl]; exact bitsT_ne _ _ _
  · rw [if_neg (by decide), if_pos rfl]
    have hh : hasI 2 ix = false := by unfold hasI; simp
    rw [hh, ← eW, ← eA, ← moreT_render]
    refine lit1_ne _ _ ?_
    show Lit1 (moreK (ixn ix) k)
    rcases ixn_two ix with h | h <;> rw [h]
    · exact (more_lit k hk).1
    · exact (more_lit k hk).2
  · rw [if_neg (by decide), if_neg (by decide), if_pos rfl]
    split
    · exact bitsT_ne _ _ _
    · split
      · exact bitsT_ne _ _ _
      · simp
  · rw [if_neg (by decide), if_neg (by decide), if_neg (by decide), if_pos rfl]
    simp
/-- what is told of an instruction that was read -/
def GoodI (pc : Int) (r : In × Bool) : Prop := ∃ s i c d m ln, r = (⟨s, i, c, d, m, ln⟩, true) ∧ Rng c d m ln pc ∧ (s = 0 ∧ c ≠ 203 ∨ s = 1 ∨ s = 2 ∨ s = 3 ∨ s = 4)
theorem byte_at {l : List Int} (hb : ∀ x ∈ l, B8 x) (k : Nat) : B8 (l.getD k 0) := by
  rw [List.getD_eq_getElem?_getD]
  rcases Nat.lt_or_ge k l.length with h | h
  · rw [List.getElem?_eq_getElem h]; exact hb _ (List.getElem_mem h)
  · rw [List.getElem?_eq_none h]; exact ⟨by decide, by decide⟩
theorem opnd_ran {l : List Int} (hb : ∀ x ∈ l, B8 x) (k a : Nat) : B16 (opnd l k a) := by
  unfold opnd
  have h1 := byte_at hb k
  have h2 := byte_at hb (k + 1)
  obtain ⟨a0, a1⟩ := h1
  obtain ⟨b0, b1⟩ := h2
  split
  · exact ⟨by decide, by decide⟩
  · split
    · exact ⟨a0, by omega⟩
    · exact ⟨by omega, by omega⟩
theorem tail2_good {l : List Int} (hb : ∀ x ∈ l, B8 x) (pc : Int) (hp : B16 pc) (s ix c d n0 ln0 : Int) (k a : Nat) (hl : k + a ≤ l.length) (hka : k + a ≤ 8) (c0 : 0 ≤ c) (c1 : c ≤ 255) (hd : B8 d) (hs : s = 0 ∧ c ≠ 203 ∨ s = 1 ∨ s = 2 ∨ s = 3 ∨ s = 4) : GoodI pc (tail2 l ⟨s, ix, c, d, n0, ln0⟩ k a) := by
  unfold tail2
  rw [if_neg (by omega)]
  exact ⟨s, ix, c, d, _, _, rfl, ⟨c0, c1, hd, opnd_ran hb k a, ⟨by omega, by omega⟩, hp⟩, hs⟩
theorem tailS_good {l : List Int} (hb : ∀ x ∈ l, B8 x) (pc : Int) (hp : B16 pc) (s ix c : Int) (k : Nat) (a : Int) (h4 : 4 ≤ l.length) (hk : k ≤ 2) (a0 : 0 ≤ a) (a2 : a ≤ 2) (hm : Mi.memS c = true → s = 0 → a ≤ 1) (c0 : 0 ≤ c) (c1 : c ≤ 255) (hs : s = 0 ∧ c ≠ 203 ∨ s = 1 ∨ s = 2 ∨ s = 3 ∨ s = 4) : GoodI pc (tailS l ⟨s, ix, c, 0, 0, 0⟩ k a.toNat) := by
  unfold tailS
  simp only
  split
  · rename_i h
    have := hm h.2.2 h.1
    rw [if_neg (by omega)]
    exact tail2_good hb pc hp _ _ _ _ _ _ _ _ (by omega) (by omega) c0 c1 (byte_at hb k) hs
  · exact tail2_good hb pc hp _ _ _ _ _ _ _ _ (by omega) (by omega) c0 c1 ⟨by decide, by decide⟩ hs
theorem args_mem (c : Int) (c0 : 0 ≤ c) (c1 : c ≤ 255) (h : Mi.memS c = true) : Mi.argsS c ≤ 1 := by
  obtain ⟨k, rfl⟩ := Int.eq_ofNat_of_zero_le c0
  exact mem_args k (by omega) h
theorem readS_good {l : List Int} (hb : ∀ x ∈ l, B8 x) (pc : Int) (hp : B16 pc) (h4 : 4 ≤ l.length) : GoodI pc (readS l) := by
  obtain ⟨x0, x1⟩ := byte_at hb 0
  obtain ⟨y0, y1⟩ := byte_at hb 1
  have P : ∀ ix, GoodI pc (preS l ix) := fun ix => by
    unfold preS
    rw [if_neg (by omega)]
    split
    · exact ⟨4, ix, 0, 0, 0, 1, rfl, ⟨by decide, by decide, ⟨by decide, by decide⟩, ⟨by decide, by decide⟩, ⟨by decide, by decide⟩, hp⟩, by omega⟩
    · split
      · rw [if_neg (by omega)]
        obtain ⟨u0, u1⟩ := byte_at hb 3
        exact ⟨3, ix, _, _, 0, 4, rfl, ⟨u0, u1, byte_at hb 2, ⟨by decide, by decide⟩, ⟨by decide, by decide⟩, hp⟩, by omega⟩
      · rename_i h
        obtain ⟨a0, a2⟩ := argsS_ran _ y0 y1
        exact tailS_good hb pc hp 0 ix _ 2 _ h4 (by omega) a0 a2 (fun hm _ => args_mem _ y0 y1 hm) y0 y1 (.inl ⟨rfl, h⟩)
  unfold readS
  rw [if_neg (by omega)]
  split
  · unfold secondS
    rw [if_neg (by omega)]
    split
    · exact ⟨1, 0, _, 0, 0, 2, rfl, ⟨y0, y1, ⟨by decide, by decide⟩, ⟨by decide, by decide⟩, ⟨by decide, by decide⟩, hp⟩, by omega⟩
    · exact tailS_good hb pc hp 2 0 _ 2 _ h4 (by omega) (by split <;> decide) (by split <;> decide) (fun _ h => by omega) y0 y1 (by omega)
  · rename_i h
    split
    · exact P 1
    · split
      · exact P 2
      · obtain ⟨a0, a2⟩ := argsS_ran _ x0 x1
        exact tailS_good hb pc hp 0 0 _ 1 _ h4 (by omega) a0 a2 (fun hm _ => args_mem _ x0 x1 hm) x0 x1 (.inl ⟨rfl, by omega⟩)
end Go.Proofs.Ytjkakmmhbciilaa
