/- Reel in general: worlds with the blocks of some types masked; a long gap's block; the state of building one. -/
import Derived.Test.YtoejmjhfecppcaaRelC
import Derived.Test.YtoejmjhfecppcaaTapC
namespace Go.Proofs.Ytoejmjhfecppcaa
set_option linter.unusedSimpArgs false
set_option linter.unusedVariables false
open Go.RowKit Go.Sort
theorem SlI.keep {w w' : World} {k : IntKind} {v : Value} {l : List Int} (h : SlI w k v l) (hk : ∀ a v, w.cell? a = some v → w'.cell? a = some v) : SlI w' k v l := by
  obtain ⟨A, n, c, h1, h2, h3, h4⟩ := h
  exact ⟨A, n, c, h1, h2, Cells.keep h3 hk, h4⟩
theorem SlS.keep {w w' : World} {k : IntKind} {v : Value} {L : List (Int × List Int)} (h : SlS w k v L) (hk : ∀ a v, w.cell? a = some v → w'.cell? a = some v) : SlS w' k v L := by
  obtain ⟨A, n, c, h1, h2, h3⟩ := h
  refine ⟨A, n, c, h1, h2, fun i x hi => ?_⟩
  obtain ⟨ad, p, e, c1, c2, c3⟩ := h3 i x hi
  exact ⟨ad, p, e, hk _ _ c1, hk _ _ c2, c3.keep hk⟩
theorem SlR.keep {w w' : World} {v : Value} {L : List (Int × Int)} (h : SlR w v L) (hk : ∀ a v, w.cell? a = some v → w'.cell? a = some v) : SlR w' v L := by
  obtain ⟨A, n, c, h1, h2, h3⟩ := h
  refine ⟨A, n, c, h1, h2, fun i x hi => ?_⟩
  obtain ⟨ad, e, c1, c2⟩ := h3 i x hi
  exact ⟨ad, e, hk _ _ c1, hk _ _ c2⟩
theorem BlkV.keep {w w' : World} {cs : List Value} {B : BlkL} (h : BlkV w cs B) (hk : ∀ a v, w.cell? a = some v → w'.cell? a = some v) : BlkV w' cs B := by
  obtain ⟨x0, x1, x2, x3, x4, x5, x6, x7, x8, x9, x10, x11, v12, v13, v14, v15, v16, v17, h1, h2, h3, h4, h5, h6, h7, h8⟩ := h
  exact ⟨x0, x1, x2, x3, x4, x5, x6, x7, x8, x9, x10, x11, v12, v13, v14, v15, v16, v17, h1, h2, h3.keep hk, h4.keep hk, h5.keep hk, h6.keep hk, h7.keep hk, h8.keep hk⟩
/-- is this block a tape's, or a row of blocks? -/
def tapeObj : Obj → Bool
  | .cells _ t _ => t == 87 || t == 26
  | _ => false
/-- the world without tapes and rows of blocks -/
def tmask (w : World) : World := { w with heap := w.heap.map fun o => if tapeObj o then .cells #[] 0 else o }
theorem tmask_cell (w : World) (a : Addr) (v : Value) : (tmask w).cell? a = some v ↔ w.cell? a = some v ∧ ∀ o, w.heap[a.block]? = some o → tapeObj o = false := by
  unfold tmask World.cell?
  simp only [Array.getElem?_map]
  cases h : w.heap[a.block]? with
  | none => simp
  | some o =>
    simp only [Option.map_some]
    by_cases ht : tapeObj o = true
    · rw [if_pos ht]
      constructor
      · intro h; simp at h
      · intro h; have := h.2 o rfl; rw [ht] at this; cases this
    · rw [if_neg ht]
      constructor
      · intro h; exact ⟨h, fun o' e => by injection e with e; subst e; simpa using ht⟩
      · intro h; exact h.1
theorem tmask_keep (w : World) : ∀ a v, (tmask w).cell? a = some v → w.cell? a = some v := fun a v h => ((tmask_cell w a v).1 h).1
theorem tmask_below {w w' : World} (h : Below w.heap.size w w') : ∀ a v, (tmask w).cell? a = some v → (tmask w').cell? a = some v := fun a v hc => by
  obtain ⟨h1, h2⟩ := (tmask_cell w a v).1 hc
  exact (tmask_cell w' a v).2 ⟨cell_below h h1, fun o ho => h2 o (by rw [← h.block _ (block_lt_of_cell h1)]; exact ho)⟩
theorem tmask_grown {w w' : World} {base : Nat} {size n : Nat} {v : Value} {e : TypeId} {xs : List Value} (ho : w.ownsRow base e size v n xs) (he : e = 87 ∨ e = 26) (h : w.grownBy w' v.ownBlock) :
    ∀ a u, (tmask w).cell? a = some u → (tmask w').cell? a = some u := fun a u hc => by
  obtain ⟨h1, h2⟩ := (tmask_cell w a u).1 hc
  have hne : some a.block ≠ v.ownBlock := by
    intro hb
    rcases ho.2 with ⟨e1, _⟩ | ⟨g, cap, cur, e1, _, hh, _⟩
    · rw [e1] at hb; simp [Value.ownBlock] at hb
    · rw [e1] at hb
      simp only [Value.ownBlock, Option.some.injEq] at hb
      have := h2 _ (by rw [hb]; exact hh)
      rcases he with rfl | rfl <;> simp [tapeObj] at this
  have hb := h.block _ (block_lt_of_cell h1) hne
  exact (tmask_cell w' a u).2 ⟨by rw [World.cell?_of_block hb]; exact h1, fun o ho => h2 o (by rw [← hb]; exact ho)⟩
theorem tmask_set {w : World} {g : Nat} {t : TypeId} {cs : List Value} (hb : Blk w g t cs) (ht : t = 87 ∨ t = 26) (o : Nat) (x : Value) :
    ∀ a u, (tmask w).cell? a = some u → (tmask (w.setCell ⟨g, o, none⟩ x)).cell? a = some u := fun a u hc => by
  obtain ⟨h1, h2⟩ := (tmask_cell w a u).1 hc
  have hne : a.block ≠ g := by
    intro e
    have := h2 _ (by rw [e]; exact hb)
    rcases ht with rfl | rfl <;> simp [tapeObj] at this
  have hh := Below.heap_setCell w ⟨g, o, none⟩ x a.block hne
  exact (tmask_cell _ a u).2 ⟨by rw [World.cell?_of_block hh]; exact h1, fun o ho => h2 o (by rw [← hh]; exact ho)⟩
/-- the numbers of times of what is long -/
def repsK (k : Int) : List (Int × Int) := if k ≤ 0 then [] else if k ≤ 65535 then [(1, k)] else [(1, 65535), (1, k - 65535)]
theorem repsK_step {k : Int} (h0 : 0 < k) (h1 : k ≤ 65536) : repsK k = (1, min k 65535) :: repsK (k - 65535) := by
  unfold repsK
  rw [if_neg (by omega)]
  by_cases h : k ≤ 65535
  · rw [if_pos h, if_pos (by omega), Int.min_eq_left h]
  · rw [if_neg h, if_neg (by omega), if_pos (by omega), Int.min_eq_right (by omega)]
def pairVs (R : List (Int × Int)) : List Value := R.flatMap fun x => [.int .i64 x.1, .int .i64 x.2]
theorem pairVs_len (R : List (Int × Int)) : (pairVs R).length = R.length * 2 := by
  induction R with
  | nil => rfl
  | cons x R ih => simp [pairVs] at ih ⊢; omega
theorem pairVs_get (R : List (Int × Int)) : ∀ i x, R[i]? = some x → (pairVs R)[i * 2]? = some (.int .i64 x.1) ∧ (pairVs R)[i * 2 + 1]? = some (.int .i64 x.2) := by
  induction R with
  | nil => intro i x h; simp at h
  | cons y R ih =>
    intro i x h
    cases i with
    | zero => simp at h; subst h; simp [pairVs]
    | succ i =>
      simp at h
      have := ih i x h
      have e : pairVs (y :: R) = .int .i64 y.1 :: .int .i64 y.2 :: pairVs R := by simp [pairVs]
      rw [e, show (i + 1) * 2 = i * 2 + 1 + 1 by omega]
      simpa using this
/-- a symbol's pulse lies in a block of its own -/
def SymC (u : World) (x : Int × List Int) (c0 c1 : Value) : Prop := ∃ g y, c0 = .int .i64 x.1 ∧ c1 = .slice (some ⟨g, 0, none⟩) 1 1 ∧ x.2 = [y] ∧ Blk u g 3 [.int .i64 y]
def SymsC (u : World) : List (Int × List Int) → List Value → Prop
  | [], xs => xs = []
  | x :: P, xs => ∃ c0 c1 ys, xs = c0 :: c1 :: ys ∧ SymC u x c0 c1 ∧ SymsC u P ys
theorem SymsC.keep {u u' : World} (hk : ∀ g cs, Blk u g 3 cs → Blk u' g 3 cs) : ∀ {P : List (Int × List Int)} {xs : List Value}, SymsC u P xs → SymsC u' P xs
  | [], _, h => h
  | _ :: _, _, ⟨c0, c1, ys, e, ⟨g, y, h1, h2, h3, h4⟩, h⟩ => ⟨c0, c1, ys, e, ⟨g, y, h1, h2, h3, hk _ _ h4⟩, SymsC.keep hk h⟩
theorem SymsC.snoc {u : World} {x : Int × List Int} {c0 c1 : Value} (hx : SymC u x c0 c1) : ∀ {P : List (Int × List Int)} {xs : List Value}, SymsC u P xs → SymsC u (P ++ [x]) (xs ++ [c0, c1])
  | [], _, h => by subst h; exact ⟨c0, c1, [], rfl, hx, rfl⟩
  | _ :: _, _, ⟨d0, d1, ys, e, h0, h⟩ => by subst e; exact ⟨d0, d1, _, rfl, h0, SymsC.snoc hx h⟩
theorem SymsC.get {u : World} : ∀ {P : List (Int × List Int)} {xs : List Value}, SymsC u P xs → ∀ i x, P[i]? = some x → ∃ c0 c1, xs[i * 2]? = some c0 ∧ xs[i * 2 + 1]? = some c1 ∧ SymC u x c0 c1
  | [], _, _, i, x, h => by simp at h
  | y :: P, xs, ⟨d0, d1, ys, e, h0, h⟩, i, x, hi => by
    subst e
    cases i with
    | zero => simp at hi; subst hi; exact ⟨d0, d1, by simp, by simp, h0⟩
    | succ i =>
      simp at hi
      obtain ⟨c0, c1, e0, e1, h2⟩ := SymsC.get h i x hi
      rw [show (i + 1) * 2 = i * 2 + 1 + 1 by omega]
      exact ⟨c0, c1, by simpa using e0, by simpa using e1, h2⟩
/-- a block of the long kind -/
def lgCells (s : Int) (vp vr : Value) : List Value := [.int .i64 25, .int .i64 0, .int .i64 1, .int .i64 s, .int .i64 0, .int .i64 0, .int .i64 0, .int .i64 0, .int .i64 0, .int .i64 0, .int .i64 0, .int .i64 0, .slice none 0 0, .slice none 0 0, .slice none 0 0, vp, .slice none 0 0, vr]
def zeroBlk : List Value := [.int .i64 0, .int .i64 0, .int .i64 0, .int .i64 0, .int .i64 0, .int .i64 0, .int .i64 0, .int .i64 0, .int .i64 0, .int .i64 0, .int .i64 0, .int .i64 0, .slice none 0 0, .slice none 0 0, .slice none 0 0, .slice none 0 0, .slice none 0 0, .slice none 0 0]
/-- the state of building one -/
structure LgS (W u : World) (gb : Nat) (s : Int) (vp vr : Value) (P : List (Int × List Int)) (R : List (Int × Int)) : Prop where
  res : Blk u W.heap.size 87 zeroBlk
  blk : Blk u gb 87 (lgCells s vp vr)
  gbLe : W.heap.size < gb
  prow : ∃ xp, u.ownsRow W.heap.size 113 2 vp P.length xp ∧ SymsC u P xp
  rrow : u.ownsRow W.heap.size 115 2 vr R.length (pairVs R)
  below : Below W.heap.size W u
end Go.Proofs.Ytoejmjhfecppcaa
