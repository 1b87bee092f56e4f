/- Reel in general: the moves of a long block in the making; reel.shorts; reel.long. -/
import Derived.Test.YtoejmjhfecppcaaRelM
namespace Go.Proofs.Ytoejmjhfecppcaa
set_option linter.unusedSimpArgs false
set_option linter.unusedVariables false
open Go.RowKit Go.Sort
theorem own_block {w : World} {base : Nat} {e : TypeId} {size n : Nat} {v : Value} {xs : List Value} (h : w.ownsRow base e size v n xs) {k : Nat} (hk : v.ownBlock = some k) : ∃ cur, w.heap[k]? = some (.cells cur e (0, 0)) := by
  rcases h.2 with ⟨e1, _⟩ | ⟨g, cap, cur, e1, _, hh, _⟩
  · rw [e1] at hk; simp [Value.ownBlock] at hk
  · rw [e1] at hk
    simp only [Value.ownBlock, Option.some.injEq] at hk
    subst hk
    exact ⟨cur, hh⟩
theorem own_ne_ty {w : World} {base : Nat} {e t : TypeId} {size n g : Nat} {v : Value} {xs cs : List Value} (h : w.ownsRow base e size v n xs) (hb : Blk w g t cs) (hne : e ≠ t) : some g ≠ v.ownBlock := by
  intro hk
  obtain ⟨cur, hh⟩ := own_block h hk.symm
  unfold Blk at hb
  rw [hh] at hb
  injection hb with hb
  injection hb with _ ht
  exact hne ht
theorem own_apart {w : World} {base : Nat} {e e' : TypeId} {size n size' n' : Nat} {v v' : Value} {xs xs' : List Value} (h : w.ownsRow base e size v n xs) (h' : w.ownsRow base e' size' v' n' xs') (hne : e ≠ e') : Apart v v' := by
  intro g h1 h2
  obtain ⟨cur, hh⟩ := own_block h h1
  obtain ⟨cur', hh'⟩ := own_block h' h2
  rw [hh] at hh'
  injection hh' with hb
  injection hb with _ ht
  exact hne ht
theorem own_set {w : World} {base : Nat} {e t : TypeId} {size n g : Nat} {v : Value} {xs cs : List Value} (h : w.ownsRow base e size v n xs) (hb : Blk w g t cs) (hne : e ≠ t) (o : Nat) (x : Value) : (w.setCell ⟨g, o, none⟩ x).ownsRow base e size v n xs := by
  refine ⟨h.1, ?_⟩
  rcases h.2 with e1 | ⟨k, cap, cur, e1, hle, hh, rest⟩
  · exact .inl e1
  · refine .inr ⟨k, cap, cur, e1, hle, ?_, rest⟩
    have hkg : k ≠ g := by
      have := own_ne_ty h hb hne
      intro hk
      apply this
      rw [e1, hk]
      rfl
    rw [← hh]
    exact Below.heap_setCell w ⟨g, o, none⟩ x k hkg
theorem own_below {w w' : World} {base : Nat} {e : TypeId} {size n : Nat} {v : Value} {xs : List Value} (h : w.ownsRow base e size v n xs) (hb : Below w.heap.size w w') : w'.ownsRow base e size v n xs := by
  refine ⟨h.1, ?_⟩
  rcases h.2 with e1 | ⟨k, cap, cur, e1, hle, hh, rest⟩
  · exact .inl e1
  · refine .inr ⟨k, cap, cur, e1, hle, ?_, rest⟩
    rw [← hh]
    exact hb.block k ((h.lt k (by rw [e1]; rfl)).2)
theorem blk_ne_ty {w : World} {g g' : Nat} {t t' : TypeId} {cs cs' : List Value} (h : Blk w g t cs) (h' : Blk w g' t' cs') (hne : t ≠ t') : g ≠ g' := by
  rintro rfl
  unfold Blk at h h'
  rw [h] at h'
  injection h' with hb
  injection hb with _ ht
  exact hne ht
theorem pairVs_snoc (R : List (Int × Int)) (x : Int × Int) : pairVs (R ++ [x]) = pairVs R ++ [.int .i64 x.1, .int .i64 x.2] := by simp [pairVs]
section
variable {W u w' : World} {gb : Nat} {s : Int} {vp vr : Value} {P : List (Int × List Int)} {R : List (Int × Int)}
theorem LgS.size (h : LgS W u gb s vp vr P R) : W.heap.size < u.heap.size := h.res.lt
theorem LgS.below_ (h : LgS W u gb s vp vr P R) (hb : Below u.heap.size u w') : LgS W w' gb s vp vr P R := by
  obtain ⟨xp, h1, h2⟩ := h.prow
  exact ⟨h.res.below_ hb, h.blk.below_ hb, h.gbLe, ⟨xp, own_below h1 hb, h2.keep fun g cs hg => hg.below_ hb⟩, own_below h.rrow hb, h.below.trans (hb.mono (Nat.le_of_lt h.size))⟩
/-- a row of repeats has grown; the block's own cells say nothing of it yet -/
structure LgR (W u : World) (gb : Nat) (s : Int) (vp vr vr' : Value) (P : List (Int × List Int)) (R : List (Int × Int)) : Prop where
  res : Blk u W.heap.size 87 zeroBlk
  blk : Blk u gb 87 (lgCells s vp vr)
  gbLe : W.heap.size < gb
  prow : ∃ xp, u.ownsRow W.heap.size 113 2 vp P.length xp ∧ SymsC u P xp
  rrow : u.ownsRow W.heap.size 115 2 vr' R.length (pairVs R)
  below : Below W.heap.size W u
structure LgP (W u : World) (gb : Nat) (s : Int) (vp vr vp' : Value) (P : List (Int × List Int)) (R : List (Int × Int)) : Prop where
  res : Blk u W.heap.size 87 zeroBlk
  blk : Blk u gb 87 (lgCells s vp vr)
  gbLe : W.heap.size < gb
  prow : ∃ xp, u.ownsRow W.heap.size 113 2 vp' P.length xp ∧ SymsC u P xp
  rrow : u.ownsRow W.heap.size 115 2 vr R.length (pairVs R)
  below : Below W.heap.size W u
theorem LgS.growR (h : LgS W u gb s vp vr P R) {a b : Int} {vr' : Value} {n : Nat} (hn : n = R.length + 1) (hown : w'.ownsRow W.heap.size 115 2 vr' n (pairVs R ++ [.int .i64 a, .int .i64 b])) (hg : u.grownBy w' vr.ownBlock) : LgR W w' gb s vp vr vr' P (R ++ [(a, b)]) := by
  obtain ⟨xp, h1, h2⟩ := h.prow
  subst hn
  exact ⟨h.res.grown hg (own_ne_ty h.rrow h.res (by decide)), h.blk.grown hg (own_ne_ty h.rrow h.blk (by decide)), h.gbLe, ⟨xp, (own_apart h.rrow h1 (by decide)).kept h1 hg, h2.keep fun g cs hb => hb.grown hg (own_ne_ty h.rrow hb (by decide))⟩,
    by rw [pairVs_snoc, List.length_append]; exact hown, Below_own h.below h.rrow hg (Nat.le_refl _) (Nat.le_of_lt h.size)⟩
theorem LgR.done {vr' : Value} (h : LgR W u gb s vp vr vr' P R) : LgS W (u.setCell ⟨gb, 17, none⟩ vr') gb s vp vr' P R := by
  obtain ⟨xp, h1, h2⟩ := h.prow
  refine ⟨h.res.far (by simpa using Nat.ne_of_lt h.gbLe) _, h.blk.set_ 17 _, h.gbLe, ⟨xp, own_set h1 h.blk (by decide) _ _, h2.keep fun g cs hb => hb.far (by simpa using blk_ne_ty hb h.blk (by decide)) _⟩, own_set h.rrow h.blk (by decide) _ _, h.below.setCell (by simpa using Nat.le_of_lt h.gbLe) _⟩
theorem LgS.growP (h : LgS W u gb s vp vr P R) {a b : Int} {g n : Nat} {vp' : Value} {xp : List Value} (hp : u.ownsRow W.heap.size 113 2 vp P.length xp) (hc : SymsC u P xp) (hy : Blk u g 3 [.int .i64 b]) (hn : n = P.length + 1)
    (hown : w'.ownsRow W.heap.size 113 2 vp' n (xp ++ [.int .i64 a, .slice (some ⟨g, 0, none⟩) 1 1])) (hg : u.grownBy w' vp.ownBlock) : LgP W w' gb s vp vr vp' (P ++ [(a, [b])]) R := by
  subst hn
  exact ⟨h.res.grown hg (own_ne_ty hp h.res (by decide)), h.blk.grown hg (own_ne_ty hp h.blk (by decide)), h.gbLe,
    ⟨_, by rw [List.length_append]; exact hown, SymsC.snoc ⟨g, b, rfl, rfl, rfl, hy.grown hg (own_ne_ty hp hy (by decide))⟩ (hc.keep fun g cs hb => hb.grown hg (own_ne_ty hp hb (by decide)))⟩,
    (own_apart hp h.rrow (by decide)).kept h.rrow hg, Below_own h.below hp hg (Nat.le_refl _) (Nat.le_of_lt h.size)⟩
theorem LgP.done {vp' : Value} (h : LgP W u gb s vp vr vp' P R) : LgS W (u.setCell ⟨gb, 15, none⟩ vp') gb s vp' vr P R := by
  obtain ⟨xp, h1, h2⟩ := h.prow
  refine ⟨h.res.far (by simpa using Nat.ne_of_lt h.gbLe) _, h.blk.set_ 15 _, h.gbLe, ⟨xp, own_set h1 h.blk (by decide) _ _, h2.keep fun g cs hb => hb.far (by simpa using blk_ne_ty hb h.blk (by decide)) _⟩, own_set h.rrow h.blk (by decide) _ _, h.below.setCell (by simpa using Nat.le_of_lt h.gbLe) _⟩
theorem LgS.setS (h : LgS W u gb s vp vr P R) (s' : Int) : LgS W (u.setCell ⟨gb, 3, none⟩ (.int .i64 s')) gb s' vp vr P R := by
  obtain ⟨xp, h1, h2⟩ := h.prow
  refine ⟨h.res.far (by simpa using Nat.ne_of_lt h.gbLe) _, h.blk.set_ 3 _, h.gbLe, ⟨xp, own_set h1 h.blk (by decide) _ _, h2.keep fun g cs hb => hb.far (by simpa using blk_ne_ty hb h.blk (by decide)) _⟩, own_set h.rrow h.blk (by decide) _ _, h.below.setCell (by simpa using Nat.le_of_lt h.gbLe) _⟩
end
/-- the block of a long gap -/
def longB (n : Int) : BlkL :=
  let left := n % 65535
  { nums := [25, 0, 1, if 0 < left then 3 else 2, 0, 0, 0, 0, 0, 0, 0, 0], data := [], times := [], items := [],
    pilots := [(0, [65535]), (1, [65535])] ++ (if 0 < left then [(1, [left])] else []), syms := [],
    reps := [(0, 1)] ++ repsK (n / 65535 - 1) ++ (if 0 < left then [(2, 1)] else []) }
theorem tmask_of_blk {u : World} {g : Nat} {t : TypeId} {cs : List Value} (h : Blk u g t cs) (ht : t ≠ 87 ∧ t ≠ 26) : ∀ j x, cs[j]? = some x → (tmask u).cell? ⟨g, j, none⟩ = some x := fun j x hx =>
  (tmask_cell _ _ _).2 ⟨by rw [h.cell]; exact hx, fun o ho => by
    unfold Blk at h
    rw [h] at ho
    injection ho with ho
    subst ho
    simp [tapeObj, ht.1, ht.2]⟩
theorem tmask_of_own {u : World} {base : Nat} {e : TypeId} {size n g c : Nat} {xs : List Value} (h : u.ownsRow base e size (.slice (some ⟨g, 0, none⟩) n c) n xs) (ht : e ≠ 87 ∧ e ≠ 26) : ∀ j x, xs[j]? = some x → (tmask u).cell? ⟨g, j, none⟩ = some x := fun j x hx => by
  have hc := h.cells (g := g) rfl j x hx
  rw [Addr.add_mid, Nat.zero_add] at hc
  refine (tmask_cell _ _ _).2 ⟨hc, fun o ho => ?_⟩
  obtain ⟨cur, hh⟩ := own_block h (k := g) rfl
  rw [hh] at ho
  injection ho with ho
  subst ho
  simp [tapeObj, ht.1, ht.2]
/-- the row of pilots, as a slice of symbols -/
theorem SlS.of_own {u : World} {base : Nat} {v : Value} {P : List (Int × List Int)} {xp : List Value} (h : u.ownsRow base 113 2 v P.length xp) (hc : SymsC u P xp) (hm : P.length ≤ 140737488355328) : SlS (tmask u) .i64 v P := by
  rcases h.2 with ⟨e1, e2⟩ | ⟨g, cap, cur, e1, _⟩
  · refine ⟨none, 0, 0, e1, ⟨e2, by decide⟩, fun i x hi => ?_⟩
    rw [List.length_eq_zero_iff.1 e2] at hi
    simp at hi
  · subst e1
    have T := tmask_of_own h (by decide)
    refine ⟨_, _, _, rfl, ⟨rfl, hm⟩, fun i x hi => ?_⟩
    obtain ⟨c0, c1, e0, e1, g1, y, h1, h2, h3, h4⟩ := hc.get i x hi
    refine ⟨_, c1, rfl, ?_, ?_, _, 1, 1, h2, by rw [h3]; rfl, ?_, by decide⟩
    · rw [Addr.add_mid, Nat.zero_add, ← h1]; exact T _ _ e0
    · rw [Addr.add_mid, Nat.zero_add]; exact T _ _ e1
    · intro j z hz
      rw [h3] at hz
      refine ⟨⟨g1, 0, none⟩, rfl, ?_⟩
      rw [Addr.add_mid, Nat.zero_add]
      exact tmask_of_blk h4 (by decide) _ _ hz
theorem SlR.of_own {u : World} {base : Nat} {v : Value} {R : List (Int × Int)} (h : u.ownsRow base 115 2 v R.length (pairVs R)) (hm : R.length ≤ 140737488355328) : SlR (tmask u) v R := by
  rcases h.2 with ⟨e1, e2⟩ | ⟨g, cap, cur, e1, _⟩
  · refine ⟨none, 0, 0, e1, ⟨e2, by decide⟩, fun i x hi => ?_⟩
    rw [List.length_eq_zero_iff.1 e2] at hi
    simp at hi
  · subst e1
    have T := tmask_of_own h (by decide)
    refine ⟨_, _, _, rfl, ⟨rfl, hm⟩, fun i x hi => ?_⟩
    obtain ⟨e0, e1⟩ := pairVs_get R i x hi
    refine ⟨_, rfl, ?_, ?_⟩
    · rw [Addr.add_mid, Nat.zero_add]; exact T _ _ e0
    · rw [Addr.add_mid, Nat.zero_add]; exact T _ _ e1
theorem SlI.nil (w : World) (k : IntKind) : SlI w k (.slice none 0 0) [] := ⟨none, 0, 0, rfl, rfl, fun i v h => by simp at h, by decide⟩
theorem SlS.nil (w : World) (k : IntKind) : SlS w k (.slice none 0 0) [] := ⟨none, 0, 0, rfl, ⟨rfl, by decide⟩, fun i v h => by simp at h⟩
/-- a block that is done -/
theorem LgS.blkV {W u : World} {gb : Nat} {s : Int} {vp vr : Value} {P : List (Int × List Int)} {R : List (Int × Int)} (h : LgS W u gb s vp vr P R) (hP : P.length ≤ 140737488355328) (hR : R.length ≤ 140737488355328) :
    BlkV (tmask u) (lgCells s vp vr) { nums := [25, 0, 1, s, 0, 0, 0, 0, 0, 0, 0, 0], data := [], times := [], items := [], pilots := P, syms := [], reps := R } := by
  obtain ⟨xp, h1, h2⟩ := h.prow
  exact ⟨25, 0, 1, s, 0, 0, 0, 0, 0, 0, 0, 0, _, _, _, _, _, _, rfl, rfl, SlI.nil _ _, SlI.nil _ _, SlS.nil _ _, SlS.of_own h1 h2 hP, SlS.nil _ _, SlR.of_own h.rrow hR⟩
theorem infoSym : (Try.prog.info? 113).map (fun i => (i.zero, i.size, i.bytes)) = some (some (.agg #[.int .i64 0, .slice none 0 0]), 2, 32) := by kernel_rfl
theorem infoRep : (Try.prog.info? 115).map (fun i => (i.zero, i.size, i.bytes)) = some (some (.agg #[.int .i64 0, .int .i64 0]), 2, 16) := by kernel_rfl
end Go.Proofs.Ytoejmjhfecppcaa
