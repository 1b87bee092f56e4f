/- Reel in general: the answer of Exact; its first steps. -/
import Derived.Test.YtoejmjhfecppcaaRelR
namespace Go.Proofs.Ytoejmjhfecppcaa
set_option linter.unusedSimpArgs false
set_option linter.unusedVariables false
open Go.RowKit Go.Sort
def fullL (g : List Int) : List Int := if g = [] then [] else g ++ [3500]
def usedOf (hb : Bool) : Int := if hb then 0 else 1
/-- what Exact hands back -/
def ExactR (hb : Bool) (g : List Int) (w : World) (e : Ending) (w' : World) : Prop :=
  Below w.heap.size w w' ∧
  (((0 : Int) ∈ g ∧ e = .returned (.tuple #[.agg #[.int .i64 0, .int .i64 0, .slice none 0 0], .int .i64 5])) ∨
   ((0 : Int) ∉ g ∧ posA (fullL g) 4095 < (fullL g).length ∧ e = .returned (.tuple #[.agg #[.int .i64 0, .int .i64 0, .slice none 0 0], .int .i64 8])) ∨
   ((0 : Int) ∉ g ∧ ∃ K v, K ≤ 4095 ∧ posA (fullL g) K = (fullL g).length ∧ (∀ j, j < K → posA (fullL g) j < (fullL g).length) ∧ e = .returned (.tuple #[.agg #[.int .i64 1, .int .i64 20, v], .int .i64 0]) ∧ SlB w' v (blksA (usedOf hb) (fullL g) K)))
def hdCells (x : Int) : List Value := [.int .i64 43, .int .i64 0, .int .i64 0, .int .i64 0, .int .i64 0, .int .i64 0, .int .i64 0, .int .i64 0, .int .i64 0, .int .i64 x, .int .i64 0, .int .i64 0, .slice none 0 0, .slice none 0 0, .slice none 0 0, .slice none 0 0, .slice none 0 0, .slice none 0 0]
theorem hdV (w : World) (x : Int) : BlkV w (hdCells x) (headB x) :=
  ⟨43, 0, 0, 0, 0, 0, 0, 0, 0, x, 0, 0, _, _, _, _, _, _, rfl, rfl, SlI.nil _ _, SlI.nil _ _, SlS.nil _ _, SlS.nil _ _, SlS.nil _ _, ⟨none, 0, 0, rfl, ⟨rfl, by decide⟩, fun i x h => by simp [headB] at h⟩⟩
/-- what stands in memory ahead of the gaps -/
structure F0 (W u : World) (x : Int) : Prop where
  res : Blk u W.heap.size 26 [.int .i64 0, .int .i64 0, .slice none 0 0]
  first : Blk u (W.heap.size + 1) 87 (hdCells x)
  tape : Blk u (W.heap.size + 1 + 1) 26 [.int .i64 1, .int .i64 20, .slice (some ⟨W.heap.size + 1, 0, none⟩) 1 1]
  below : Below W.heap.size W u
theorem F0.size {W u : World} {x : Int} (h : F0 W u x) : W.heap.size + 2 < u.heap.size := h.tape.lt
theorem F0.below_ {W u u' : World} {x : Int} (h : F0 W u x) (hb : Below u.heap.size u u') : F0 W u' x :=
  ⟨h.res.below_ hb, h.first.below_ hb, h.tape.below_ hb, h.below.trans (hb.mono (by have := h.size; omega))⟩
theorem F0.grown {W u u' : World} {x : Int} {n : Nat} {v : Value} {xs : List Value} (h : F0 W u x) (ho : u.ownsRow W.heap.size 3 1 v n xs) (hg : u.grownBy u' v.ownBlock) : F0 W u' x :=
  ⟨h.res.grown hg (own_ne_ty ho h.res (by decide)), h.first.grown hg (own_ne_ty ho h.first (by decide)), h.tape.grown hg (own_ne_ty ho h.tape (by decide)), Below_own h.below ho hg (Nat.le_refl _) (by have := h.size; omega)⟩
theorem F0.start (W : World) : F0 W (((W.alloc (.cells #[.int .i64 0, .int .i64 0, .slice none 0 0] 26)).alloc (.cells (hdCells 1).toArray 87)).alloc (.cells #[.int .i64 1, .int .i64 20, .slice (some ⟨W.heap.size + 1, 0, none⟩) 1 1] 26)) 1 := by
  obtain ⟨a, ha⟩ : ∃ a, a = W.alloc (.cells #[.int .i64 0, .int .i64 0, .slice none 0 0] 26) := ⟨_, rfl⟩
  have sa : a.heap.size = W.heap.size + 1 := by rw [ha]; simp
  have fa : Blk a W.heap.size 26 [.int .i64 0, .int .i64 0, .slice none 0 0] := by rw [ha]; exact Blk.new W _ _
  have xa : Below W.heap.size W a := by rw [ha]; exact below_alloc1 _ _
  rw [← ha]
  obtain ⟨b, hb⟩ : ∃ b, b = a.alloc (.cells (hdCells 1).toArray 87) := ⟨_, rfl⟩
  have sb : b.heap.size = W.heap.size + 1 + 1 := by rw [hb]; simp [sa]
  have fb : Blk b (W.heap.size + 1) 87 (hdCells 1) := by rw [hb, ← sa]; exact Blk.new a _ _
  have xb : Below a.heap.size a b := by rw [hb]; exact below_alloc1 _ _
  rw [← hb]
  obtain ⟨c, hc⟩ : ∃ c, c = b.alloc (.cells #[.int .i64 1, .int .i64 20, .slice (some ⟨W.heap.size + 1, 0, none⟩) 1 1] 26) := ⟨_, rfl⟩
  have fc : Blk c (W.heap.size + 1 + 1) 26 [.int .i64 1, .int .i64 20, .slice (some ⟨W.heap.size + 1, 0, none⟩) 1 1] := by rw [hc, ← sb]; exact Blk.new b _ _
  have xc : Below b.heap.size b c := by rw [hc]; exact below_alloc1 _ _
  rw [← hc]
  have ya : Below a.heap.size a c := xb.trans (xc.mono (by omega))
  exact ⟨fa.below_ ya, fb.below_ xc, fc, xa.trans (ya.mono (by omega))⟩
theorem F0.setUsed {W u : World} {x : Int} (h : F0 W u x) (y : Int) : F0 W (u.setCell ⟨W.heap.size + 1, 9, none⟩ (.int .i64 y)) y :=
  ⟨h.res.far (by simp) _, h.first.set_ 9 _, h.tape.far (by simp) _, h.below.setCell (by simp) _⟩
theorem F0.xs {W u : World} {x : Int} (h : F0 W u x) : XS W u (W.heap.size + 1 + 1) (.slice (some ⟨W.heap.size + 1, 0, none⟩) 1 1) [headB x] :=
  ⟨h.res, h.tape, by omega, ⟨hdCells x, ⟨rfl, .inr ⟨_, 1, _, rfl, by omega, h.first, by simp, by decide, rfl, rfl⟩⟩, ⟨hdCells x, [], by simp, rfl, hdV _ _, rfl⟩⟩, h.below⟩
/-- the gaps with what is behind them, as they lie in memory -/
theorem ints_of_own {u : World} {base n c : Nat} {A : Option Addr} {l : List Int} (h : u.ownsRow base 3 1 (.slice A n c) n (l.map (.int .i64 ·))) : Ints (tmask u) A .i64 l := by
  rcases h.2 with ⟨e1, e2⟩ | ⟨g, cap, cur, e1, _⟩
  · intro i v hi
    have := h.1
    rw [e2] at this
    have : l = [] := by simpa using this
    subst this
    simp at hi
  · injection e1 with e1 _ e3
    subst e1 e3
    intro i v hi
    refine ⟨_, rfl, ?_⟩
    rw [Addr.add_mid, Nat.zero_add]
    exact tmask_of_own h (by decide) i v hi
theorem mk_ints (n : Nat) (hn : n ≤ 6000) : ∃ Z : Array Value, Z.size = n + 1 ∧ ∀ u, (Instr.makeSlice 38 (.int .i64 0) (.int .i64 ((n : Int) + 1))).run Try.prog u = .ok (.slice (some ⟨u.heap.size, 0, none⟩) 0 (n + 1)) (u.alloc (.cells Z 3)) := by
  obtain ⟨i0, hi, hz0, hz1, hz2⟩ := info_parts infoInt
  refine ⟨madeCells #[.int .i64 0] (n + 1), size_madeCells _ _, fun u => ?_⟩
  have h := run_make (P := Try.prog) u 38 3 i0 (.int .i64 0) Try.underlying38 hi hz0 .i64 .i64 0 ((n : Int) + 1) (by omega) (by omega) (by rw [hz2]; omega) (by omega)
  rw [hz1] at h
  have e : ((n : Int) + 1).toNat = n + 1 := by omega
  rw [e] at h
  simpa [show (Value.int .i64 0).cells = #[Value.int .i64 0] from rfl] using h
end Go.Proofs.Ytoejmjhfecppcaa
