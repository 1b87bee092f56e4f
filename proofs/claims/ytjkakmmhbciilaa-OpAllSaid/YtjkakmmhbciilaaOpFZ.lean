/- The plain law of OpShows: both texts are the same. -/
import Derived.Test.YtjkakmmhbciilaaOpFY
namespace Go.Proofs.Ytjkakmmhbciilaa
set_option linter.unusedSimpArgs false
set_option linter.unusedVariables false
open Go.RowKit
/-! ### texts with holes -/
def tk (l : List UInt8) : List Nat := l.map UInt8.toNat
def render (ρ : Nat → List UInt8) (t : List Nat) : List UInt8 := t.flatMap fun n => if n < 256 then [UInt8.ofNat n] else ρ n
theorem render_nil (ρ : Nat → List UInt8) : render ρ [] = [] := rfl
theorem render_cons (ρ : Nat → List UInt8) (n : Nat) (t : List Nat) : render ρ (n :: t) = (if n < 256 then [UInt8.ofNat n] else ρ n) ++ render ρ t := rfl
theorem render_append (ρ : Nat → List UInt8) (a b : List Nat) : render ρ (a ++ b) = render ρ a ++ render ρ b := by simp [render]
theorem render_tk (ρ : Nat → List UInt8) (l : List UInt8) : render ρ (tk l) = l := by
  induction l with
  | nil => rfl
  | cons x r ih =>
    show render ρ (x.toNat :: tk r) = _
    rw [render_cons, if_pos x.toNat_lt, ih, UInt8.ofNat_toNat]
    rfl
theorem render_hole (ρ : Nat → List UInt8) (h : Nat) (hh : ¬ h < 256) : render ρ [h] = ρ h := by rw [render_cons, if_neg hh, render_nil, List.append_nil]
theorem render_N (ρ : Nat → List UInt8) : render ρ [1000] = ρ 1000 := render_hole ρ 1000 (by decide)
theorem render_W (ρ : Nat → List UInt8) : render ρ [1001] = ρ 1001 := render_hole ρ 1001 (by decide)
theorem render_E (ρ : Nat → List UInt8) : render ρ [1002] = ρ 1002 := render_hole ρ 1002 (by decide)
theorem render_A (ρ : Nat → List UInt8) : render ρ [1003] = ρ 1003 := render_hole ρ 1003 (by decide)
theorem render_ite (ρ : Nat → List UInt8) (c : Prop) [Decidable c] (a b : List Nat) : render ρ (if c then a else b) = if c then render ρ a else render ρ b := by split <;> rfl
theorem hlT_render (ρ : Nat → List UInt8) (hs : Bool) (nm : List UInt8) : render ρ (hlT tk hs nm) = hlT id hs nm := by
  simp only [hlT, render_ite, render_tk, id]
theorem pairT_render (ρ : Nat → List UInt8) (hs : Bool) (nm : List UInt8) (k : Int) : render ρ (pairT tk hs nm k) = pairT id hs nm k := by
  simp only [pairT, render_ite, render_tk, hlT_render, id]
theorem pushedT_render (ρ : Nat → List UInt8) (hs : Bool) (nm : List UInt8) (k : Int) : render ρ (pushedT tk hs nm k) = pushedT id hs nm k := by
  simp only [pushedT, render_ite, render_tk, pairT_render, id]
theorem regT_render (ρ : Nat → List UInt8) (hs : Bool) (nm : List UInt8) (c k : Int) : render ρ (regT tk [1003] hs nm c k) = regT id (ρ 1003) hs nm c k := by
  simp only [regT, render_ite, render_append, render_tk, render_A, id]
theorem movedT_render (ρ : Nat → List UInt8) (hs : Bool) (nm : List UInt8) (p q : Int) : render ρ (movedT tk [1001] hs nm p q) = movedT id (ρ 1001) hs nm p q := by
  simp only [movedT, render_ite, render_append, render_tk, render_W, hlT_render, pairT_render, id]
theorem firstT_render (ρ : Nat → List UInt8) (hs : Bool) (nm : List UInt8) (c y z p q : Int) : render ρ (firstT tk [1001] [1000] [1002] [1003] hs nm c y z p q) = firstT id (ρ 1001) (ρ 1000) (ρ 1002) (ρ 1003) hs nm c y z p q := by
  simp only [firstT, render_ite, render_append, render_tk, render_W, render_N, render_E, hlT_render, pairT_render, regT_render, movedT_render, id]
theorem lastT_render (ρ : Nat → List UInt8) (hs : Bool) (nm : List UInt8) (y z p q : Int) : render ρ (lastT tk [1001] [1000] hs nm y z p q) = lastT id (ρ 1001) (ρ 1000) hs nm y z p q := by
  simp only [lastT, render_ite, render_append, render_tk, render_W, render_N, hlT_render, pushedT_render, id]
theorem plainT_render (ρ : Nat → List UInt8) (hs : Bool) (nm : List UInt8) (c x y z p q : Int) : render ρ (plainT tk [1001] [1000] [1002] [1003] hs nm c x y z p q) = plainT id (ρ 1001) (ρ 1000) (ρ 1002) (ρ 1003) hs nm c x y z p q := by
  simp only [plainT, render_ite, render_append, render_tk, firstT_render, lastT_render, regT_render, id]
theorem moreT_render (ρ : Nat → List UInt8) (hs : Bool) (nm : List UInt8) (c x y z p q : Int) : render ρ (moreT tk [1001] [1003] hs nm c x y z p q) = moreT id (ρ 1001) (ρ 1003) hs nm c x y z p q := by
  simp only [moreT, render_ite, render_append, render_tk, render_W, pairT_render, regT_render, id]
/-! ### letters filled in -/
def swapK (k h : Nat) : List Nat → List Nat
  | [] => []
  | a :: r => if a = k then h :: r else a :: swapK k h r
theorem swapS_past (k : UInt8) (b : List UInt8) : ∀ (p s : List UInt8), (∀ x ∈ p, x ≠ k) → swapS (p ++ s) [k] b = p ++ swapS s [k] b
  | [], s, _ => rfl
  | x :: p, s, h => by
    have hx : x ≠ k := h x (by simp)
    show swapS (x :: (p ++ s)) [k] b = _
    rw [swapS, if_neg (by simpa using hx), swapS_past k b p s (fun y hy => h y (by simp [hy]))]
    rfl
theorem swapK_render (ρ : Nat → List UInt8) (k : UInt8) (h : Nat) (hh : ¬ h < 256) : ∀ t : List Nat, (∀ a ∈ t, ¬ a < 256 → ∀ x ∈ ρ a, x ≠ k) → render ρ (swapK k.toNat h t) = swapS (render ρ t) [k] (ρ h)
  | [], _ => rfl
  | a :: r, hρ => by
    rw [swapK, render_cons]
    by_cases ha : a = k.toNat
    · rw [if_pos ha, if_pos (by rw [ha]; exact k.toNat_lt), render_cons, if_neg hh]
      have : UInt8.ofNat a = k := by rw [ha]; exact UInt8.ofNat_toNat
      rw [this]
      show _ = swapS (k :: render ρ r) [k] (ρ h)
      rw [swapS, if_pos (by simp)]
      simp
    · rw [if_neg ha, render_cons, swapK_render ρ k h hh r (fun b hb => hρ b (by simp [hb]))]
      rw [swapS_past k (ρ h)]
      intro x hx
      by_cases hb : a < 256
      · rw [if_pos hb, List.mem_singleton] at hx
        intro e
        apply ha
        rw [← e, hx]
        simp
        omega
      · rw [if_neg hb] at hx
        exact hρ a (by simp) hb x hx
def fillK (t : List Nat) : List Nat := swapK 69 1002 (swapK 87 1001 (swapK 78 1000 t))
/-- what is told of the holes: no letter that is filled in -/
def Holes (ρ : Nat → List UInt8) : Prop := ∀ h, ∀ x ∈ ρ h, x ≠ 78 ∧ x ≠ 87 ∧ x ≠ 69
theorem fillK_render (ρ : Nat → List UInt8) (H : Holes ρ) (t : List Nat) : render ρ (fillK t) = fillS (render ρ t) (ρ 1000) (ρ 1001) (ρ 1002) := by
  unfold fillK fillS
  have e1 := swapK_render ρ 69 1002 (by decide) (swapK 87 1001 (swapK 78 1000 t)) (fun a _ _ x hx => (H a x hx).2.2)
  have e2 := swapK_render ρ 87 1001 (by decide) (swapK 78 1000 t) (fun a _ _ x hx => (H a x hx).2.1)
  have e3 := swapK_render ρ 78 1000 (by decide) t (fun a _ _ x hx => (H a x hx).1)
  rw [show (69 : Nat) = (69 : UInt8).toNat from rfl, e1, show (87 : Nat) = (87 : UInt8).toNat from rfl, e2, show (78 : Nat) = (78 : UInt8).toNat from rfl, e3]
def swapH : List UInt8 → List Nat
  | [] => []
  | c :: t => if (c :: t).take 4 == [40, 104, 108, 41] then 1003 :: tk ((c :: t).drop 4) else c.toNat :: swapH t
theorem swapH_render (ρ : Nat → List UInt8) : ∀ t : List UInt8, render ρ (swapH t) = swapS t [40, 104, 108, 41] (ρ 1003)
  | [] => rfl
  | c :: t => by
    rw [swapH, swapS]
    show render ρ (if (c :: t).take 4 == [40, 104, 108, 41] then _ else _) = if (c :: t).take 4 == [40, 104, 108, 41] then _ else _
    split
    · rw [render_cons, if_neg (by decide), render_tk]; rfl
    · rw [render_cons, if_pos c.toNat_lt, swapH_render ρ t, UInt8.ofNat_toNat]; rfl
/-- a text with an index, with holes -/
def indexedK (t : List UInt8) (nm : List UInt8) (c : Int) : List Nat :=
  if Mi.hasS t [40, 104, 108, 41] = true then swapH t else if c = 235 then tk t else tk (joinGo nm ((wordsS t).drop 1) 1 ((wordsS t).getD 0 []))
theorem indexedK_render (ρ : Nat → List UInt8) (t : List UInt8) (ix c d : Int) (hA : ρ 1003 = awayS ix d) : render ρ (indexedK t (ixn ix) c) = indexedS t ix c d := by
  unfold indexedK indexedS
  rw [render_ite, render_ite, swapH_render, render_tk, render_tk, hA]
/-! ### all codes -/
def opK (hs : Bool) (nm : List UInt8) (c : Int) : List Nat := plainT tk [1001] [1000] [1002] [1003] hs nm c (c / 64) (c / 8 % 8) (c % 8) (c / 16 % 4) (c / 8 % 2)
def moreK (nm : List UInt8) (c : Int) : List Nat := moreT tk [1001] [1003] false nm c (c / 64) (c / 8 % 8) (c % 8) (c / 16 % 4) (c / 8 % 2)
theorem all_plain : ∀ k < 256, opK false [105, 120] (k : Nat) = fillK (tk (Mi.plain7 (k : Nat))) ∧ opK false [105, 121] (k : Nat) = fillK (tk (Mi.plain7 (k : Nat))) := by decide +kernel
theorem all_index : ∀ k < 256, opK true [105, 120] (k : Nat) = fillK (indexedK (Mi.plain7 (k : Nat)) [105, 120] (k : Nat)) ∧ opK true [105, 121] (k : Nat) = fillK (indexedK (Mi.plain7 (k : Nat)) [105, 121] (k : Nat)) := by decide +kernel
theorem all_more : ∀ k < 256, moreK [105, 120] (k : Nat) = fillK (tk (more7S (k : Nat))) ∧ moreK [105, 121] (k : Nat) = fillK (tk (more7S (k : Nat))) := by decide +kernel
theorem ixn_two (ix : Int) : ixn ix = [105, 120] ∨ ixn ix = [105, 121] := by unfold ixn; split; exact .inl rfl; exact .inr rfl
theorem hexS_low (n : Int) : hexS 2 n = hexS 2 (n % 256) := by
  simp only [hexS]
  rw [show n / 16 % 16 = n % 256 / 16 % 16 by omega, show n % 16 = n % 256 % 16 by omega]
theorem hxS_low (n : Int) : hxS 2 n = hxS 2 (n % 256) := by unfold hxS; rw [hexS_low]
theorem hexS_in : ∀ (k : Nat) (n : Int), ∀ x ∈ hexS k n, (48 ≤ x ∧ x ≤ 57) ∨ (97 ≤ x ∧ x ≤ 102)
  | 0, _, x, hx => by simp [hexS] at hx
  | k + 1, n, x, hx => by
    simp only [hexS, List.mem_append, List.mem_singleton] at hx
    rcases hx with hx | rfl
    · exact hexS_in k _ x hx
    · unfold hexd; split <;> omega
theorem byte_ne (x : Int) (h : (36 ≤ x ∧ x ≤ 57) ∨ (97 ≤ x ∧ x ≤ 121)) : UInt8.ofNat x.toNat ≠ 78 ∧ UInt8.ofNat x.toNat ≠ 87 ∧ UInt8.ofNat x.toNat ≠ 69 := by
  have key : ∀ k : Nat, k < 256 → (36 ≤ k ∧ k ≤ 57) ∨ (97 ≤ k ∧ k ≤ 121) → UInt8.ofNat k ≠ 78 ∧ UInt8.ofNat k ≠ 87 ∧ UInt8.ofNat k ≠ 69 := by decide +kernel
  exact key x.toNat (by omega) (by omega)
theorem hxS_ne (k : Nat) (n : Int) : ∀ x ∈ hxS k n, x ≠ 78 ∧ x ≠ 87 ∧ x ≠ 69 := by
  intro x hx
  unfold hxS at hx
  obtain ⟨y, hy, rfl⟩ := List.mem_map.1 hx
  rcases List.mem_cons.1 hy with rfl | hy
  · exact byte_ne 36 (by omega)
  · have := hexS_in k n y hy
    exact byte_ne y (by omega)
theorem dg_ne (x : Int) (h0 : 0 ≤ x) (h1 : x ≤ 9) : dg x ≠ 78 ∧ dg x ≠ 87 ∧ dg x ≠ 69 := byte_ne (48 + x) (by omega)
theorem wholeS_ne (n : Int) (h0 : 0 ≤ n) (h1 : n < 1000) : ∀ x ∈ wholeS n, x ≠ 78 ∧ x ≠ 87 ∧ x ≠ 69 := by
  intro x hx
  unfold wholeS at hx
  split at hx
  · simp only [List.mem_cons, List.not_mem_nil, or_false] at hx; subst hx; exact dg_ne n h0 (by omega)
  · split at hx
    · simp only [List.mem_cons, List.not_mem_nil, or_false] at hx
      rcases hx with rfl | rfl
      · exact dg_ne _ (by omega) (by omega)
      · exact dg_ne _ (by omega) (by omega)
    · simp only [List.mem_cons, List.not_mem_nil, or_false] at hx
      rcases hx with rfl | rfl | rfl
      · exact dg_ne _ (by omega) (by omega)
      · exact dg_ne _ (by omega) (by omega)
      · exact dg_ne _ (by omega) (by omega)
theorem ixn_ne (ix : Int) : ∀ x ∈ ixn ix, x ≠ 78 ∧ x ≠ 87 ∧ x ≠ 69 := by
  rcases ixn_two ix with h | h <;> (rw [h]; decide)
theorem awayS_ne (ix d : Int) (h0 : 0 ≤ d) (h1 : d ≤ 255) : ∀ x ∈ awayS ix d, x ≠ 78 ∧ x ≠ 87 ∧ x ≠ 69 := by
  intro x hx
  unfold awayS at hx
  split at hx
  · simp only [List.mem_append, List.mem_singleton] at hx
    rcases hx with (((rfl | hx) | rfl) | hx) | rfl
    · decide
    · exact ixn_ne ix x hx
    · decide
    · exact wholeS_ne _ (by omega) (by omega) x hx
    · decide
  · simp only [List.mem_append, List.mem_singleton] at hx
    rcases hx with (((rfl | hx) | rfl) | hx) | rfl
    · decide
    · exact ixn_ne ix x hx
    · decide
    · exact wholeS_ne _ (by omega) (by omega) x hx
    · decide
/-- the holes of an instruction -/
def rho (ix d n ln pc : Int) (h : Nat) : List UInt8 := if h = 1000 then hxS 2 n else if h = 1001 then hxS 4 n else if h = 1002 then targetS n ln pc else awayS ix d
theorem rho_holes (ix d n ln pc : Int) (h0 : 0 ≤ d) (h1 : d ≤ 255) : Holes (rho ix d n ln pc) := by
  intro h x hx
  unfold rho at hx
  split at hx
  · exact hxS_ne _ _ x hx
  · split at hx
    · exact hxS_ne _ _ x hx
    · split at hx
      · exact hxS_ne _ _ x hx
      · exact awayS_ne ix d h0 h1 x hx
theorem show_same (s ix c d n ln pc : Int) (hr : Rng c d n ln pc) : showS s ix c d n ln pc = show7T s ix c d n ln pc := by
  have h0 := hr.c0
  have h1 := hr.c1
  obtain ⟨d0, d1⟩ := hr.d
  have H := rho_holes ix d n ln pc d0 d1
  have eN : rho ix d n ln pc 1000 = hxS 2 n := rfl
  have eW : rho ix d n ln pc 1001 = hxS 4 n := rfl
  have eE : rho ix d n ln pc 1002 = targetS n ln pc := rfl
  have eA : rho ix d n ln pc 1003 = awayS ix d := rfl
  have ek : ∃ k : Nat, k < 256 ∧ c = (k : Int) := ⟨c.toNat, by omega, by omega⟩
  unfold showS showT show7T
  by_cases s1 : s = 1
  · subst s1
    rw [if_pos rfl, if_neg (by decide), if_pos rfl]
    have : regT id (awayS ix d) (hasI 1 ix) (ixn ix) c (c % 8) = Mi.regsL.getD (c % 8).toNat [] := by
      unfold regT hasI
      simp
    rw [this]
  rw [if_neg s1]
  by_cases s2 : s = 2
  · subst s2
    rw [if_pos rfl, if_neg (by decide), if_neg (by decide), if_pos rfl]
    have hh : hasI 2 ix = false := by unfold hasI; simp
    rw [hh, ← hxS_low, ← eN, ← eW, ← eE, ← eA, ← moreT_render]
    have hm : moreK (ixn ix) c = fillK (tk (more7S c)) := by
      obtain ⟨k, hk, rfl⟩ := ek
      rcases ixn_two ix with h | h
      · rw [h]; exact (all_more k hk).1
      · rw [h]; exact (all_more k hk).2
    unfold moreK at hm
    rw [hm, fillK_render _ H, render_tk]
  rw [if_neg s2]
  by_cases s3 : s = 3
  · subst s3
    have : regT id (awayS ix d) (hasI 3 ix) (ixn ix) c (c % 8) = Mi.regsL.getD (c % 8).toNat [] := by
      unfold regT hasI
      simp
    rw [if_pos rfl, this]
    rfl
  rw [if_neg s3]
  by_cases s4 : s = 4
  · subst s4
    rw [if_pos rfl, if_neg (by decide), if_neg (by decide), if_neg (by decide), if_neg (by decide), if_pos rfl]
  rw [if_neg s4]
  by_cases s0 : s = 0
  · subst s0
    rw [if_pos rfl, if_pos rfl, ← hxS_low, ← eN, ← eW, ← eE, ← eA, ← plainT_render]
    by_cases hx : ix = 1 ∨ ix = 2
    · have hh : hasI 0 ix = true := by unfold hasI; simpa using hx
      rw [if_pos hx, hh]
      have hm : opK true (ixn ix) c = fillK (indexedK (Mi.plain7 c) (ixn ix) c) := by
        obtain ⟨k, hk, rfl⟩ := ek
        rcases ixn_two ix with h | h
        · rw [h]; exact (all_index k hk).1
        · rw [h]; exact (all_index k hk).2
      unfold opK at hm
      rw [hm, fillK_render _ H, indexedK_render _ _ _ _ d eA]
    · have hh : hasI 0 ix = false := by
        unfold hasI
        simpa using hx
      rw [if_neg hx, hh]
      have hm : opK false (ixn ix) c = fillK (tk (Mi.plain7 c)) := by
        obtain ⟨k, hk, rfl⟩ := ek
        rcases ixn_two ix with h | h
        · rw [h]; exact (all_plain k hk).1
        · rw [h]; exact (all_plain k hk).2
      unfold opK at hm
      rw [hm, fillK_render _ H, render_tk]
  rw [if_neg s0, if_neg s0, if_neg s1, if_neg s2, if_neg s3, if_neg s4]
end Go.Proofs.Ytjkakmmhbciilaa
