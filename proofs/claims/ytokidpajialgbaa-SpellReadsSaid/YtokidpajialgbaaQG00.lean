/- Texts that are laid together: G00. -/
import Derived.WalkKit
import Derived.Deep.Draws
import Derived.Deep.AppendLies
import Derived.Great.BuildSlice
import Derived.Deep.QuietTactic
import Derived.BigQuiet
import Derived.Lib.Hide
import Derived.WalkSpells
import Derived.WalkLawsBesides
import Derived.Deep.MidRow
import Derived.Deep.WholeRow
import Derived.Maps.AppendAt
import Derived.Test.YtokidpajialgbaaChecked
import Derived.Great.Ranges
import Derived.Deep.CutBlock
namespace Go.Proofs.Ytokidpajialgbaa
open Go.RowKit

/-- only draws -/
def Drew (w w' : World) : Prop := ∃ n, w' = w.drewN n
/-- the slice value at A reads as the cells l -/
def Cells (w : World) (A : Option Addr) (l : List Value) : Prop := ∀ i v, l[i]? = some v → ∃ ad, A = some ad ∧ w.cell? (ad.add i) = some v
def Ints (w : World) (A : Option Addr) (k : IntKind) (l : List Int) : Prop := Cells w A (l.map (Value.int k))
/-- block g is just these cells, of elements of type t, none frozen -/
def Blk (w : World) (g : Nat) (t : TypeId) (cs : List Value) : Prop := w.heap[g]? = some (.cells cs.toArray t (0, 0))

section
variable {w w' : World} {g : Nat} {t : TypeId} {cs : List Value} {A : Option Addr} {l : List Value}
theorem block_of_add (a : Addr) (n : Nat) : (a.add n).block = a.block := by unfold Addr.add; split <;> rfl
theorem block_lt_of_cell {a : Addr} {v : Value} (h : w.cell? a = some v) : a.block < w.heap.size := by
  rcases Nat.lt_or_ge a.block w.heap.size with hlt | hge
  · exact hlt
  · unfold World.cell? at h; rw [Array.getElem?_eq_none hge] at h; cases h
theorem Cells.keep (h : Cells w A l) (hk : ∀ a v, w.cell? a = some v → w'.cell? a = some v) : Cells w' A l := fun i v hi => by
  obtain ⟨ad, e, hc⟩ := h i v hi
  exact ⟨ad, e, hk _ _ hc⟩
theorem Cells.below (h : Cells w A l) (hb : Below w.heap.size w w') : Cells w' A l := h.keep fun _ _ hc => (hb.cell (block_lt_of_cell hc)).trans hc
theorem Cells.below' {w₀ : World} (h : Cells w₀ A l) (hb : Below w₀.heap.size w₀ w) : Cells w A l := h.below hb
theorem Cells.drewN (h : Cells w A l) (n : Nat) : Cells (w.drewN n) A l := h
theorem Blk.lt (h : Blk w g t cs) : g < w.heap.size := by
  rcases Nat.lt_or_ge g w.heap.size with hlt | hge
  · exact hlt
  · unfold Blk at h; rw [Array.getElem?_eq_none hge] at h; cases h
theorem Blk.cell (h : Blk w g t cs) (i : Nat) : w.cell? ⟨g, i, none⟩ = cs[i]? := by
  rw [cell_of_row w g i _ t (0, 0) h]; simp
theorem Blk.frozen (h : Blk w g t cs) (i : Nat) : w.frozen? ⟨g, i, none⟩ = false := by
  unfold Blk at h
  simp [World.frozen?, h]
theorem Blk.new (w : World) (t : TypeId) (cs : List Value) : Blk (w.alloc (.cells cs.toArray t)) w.heap.size t cs := heap_alloc_new w _
theorem Blk.drew (h : Blk w g t cs) : Blk w.drew g t cs := h
theorem Blk.drewN (h : Blk w g t cs) (n : Nat) : Blk (w.drewN n) g t cs := h
theorem Blk.alloc (h : Blk w g t cs) (o : Obj) : Blk (w.alloc o) g t cs := (Below.heap_alloc w o g h.lt).trans h
theorem Blk.set_ (h : Blk w g t cs) (i : Nat) (u : Value) : Blk (w.setCell ⟨g, i, none⟩ u) g t (cs.set i u) := by
  unfold Blk at h ⊢
  simp [World.setCell, Array.getElem?_modify, h]
theorem Blk.far (h : Blk w g t cs) {p : Addr} (hp : g ≠ p.block) (u : Value) : Blk (w.setCell p u) g t cs := (Below.heap_setCell w p u g hp).trans h
theorem Blk.below {B : Nat} (h : Blk w g t cs) (hb : Below B w w') (hg : g < B) : Blk w' g t cs := (hb.block g hg).trans h
theorem Blk.below_ (h : Blk w g t cs) (hb : Below w.heap.size w w') : Blk w' g t cs := h.below hb h.lt
theorem Blk.grown {row : Option Nat} (h : Blk w g t cs) (hb : w.grownBy w' row) (hg : some g ≠ row) : Blk w' g t cs := (hb.block g h.lt hg).trans h
end
theorem results_row_tmp {P : Program} {fn : Func} {p u : Tmp} {ty : TypeId} (h : fn.results = #[.cell p ty, .tmp u]) {tmps : Array Value} {w : World} {g : Nat} {t : TypeId} {cs : Array Value} {fr : Nat × Nat} {d : TypeDesc}
    (hp : tmps.getD p undef = .pointer (some ⟨g, 0, none⟩)) (hg : w.heap[g]? = some (.cells cs t fr))
    (hu : P.underlying ty = some d) (hd : (match d with | .struct _ | .array _ _ => true | _ => false) = true) (hi : (P.info? ty).map (·.size) = some cs.size) {v : Value} (hv : tmps.getD u undef = v) :
    (results fn tmps).run P w = .ok (.tuple #[.agg cs, v]) w := by
  rw [results_cell_tmp h, hp, hv]
  simp [asAddr, run_loadVar_row w g t ty cs fr d hg hu hd hi, Result.andThen]
theorem blk_alloc2_new (w : World) (a : Obj) (t : TypeId) (cs : List Value) : Blk ((w.alloc a).alloc (.cells cs.toArray t)) (w.heap.size + 1) t cs := heap_alloc2_new w _ _
theorem blk_alloc2_old (w : World) (a : Obj) (t : TypeId) (cs : List Value) : Blk ((w.alloc (.cells cs.toArray t)).alloc a) w.heap.size t cs := heap_alloc2_old w _ _
theorem Blk.setRow {w : World} {g : Nat} {t : TypeId} {cs : List Value} (h : Blk w g t cs) (cs' : List Value) : Blk (w.setRow g cs'.toArray) g t cs' := setRow_heap w g _ _ t _ h
theorem below_setRow {B g : Nat} {w w' : World} (h : Below B w w') (hg : B ≤ g) (cs : Array Value) : Below B w (w'.setRow g cs) :=
  ⟨h.os, h.tape, h.output, by simp; exact h.size, fun k hk => (setRow_other w' g k cs (by omega)).trans (h.block k hk)⟩
theorem Below_drewN {B : Nat} {w w' : World} (h : Below B w w') (n : Nat) : Below B w (w'.drewN n) := ⟨h.os, h.tape, h.output, h.size, h.block⟩
theorem grownBy_of_alloc {w w' : World} {o : Obj} {row : Option Nat} (h : (w.alloc o).grownBy w' row) : w.grownBy w' row :=
  ⟨h.os, h.tape, h.output, by have := h.size; simp at this; omega, fun k hk hr => (h.block k (by simp; omega) hr).trans (Below.heap_alloc w o k hk)⟩
/-- append of one element of one cell, that lies in the block laid last, onto a row of the call's own -/
theorem wpList_app1 {P : Program} (w : World) {ops : Array Oper} {rest : List Oper} {o : Oper} {a : Act} {Q : Exit → Act → World → Prop} (hgd : o.guard = none) (s x : Operand) (t : TypeId)
    (ho : o.op = .call { callee := .builtin .append, args := #[s, x], argTypes := #[t, t] })
    (base : Nat) (e : TypeId) (z : Value) (bytes : Nat) (ht : P.underlying t = some (.slice e)) (hi : (P.info? e).map (fun i => (i.zero, i.size, i.bytes)) = some (some z, 1, bytes)) (hzs : z.cells.size = 1)
    (v : Value) (n : Nat) (xs : List Value) (hs : a.eval s = v) (hown : w.ownsRow base e 1 v n xs) (u : Value) (hx : a.eval x = .slice (some ⟨w.heap.size, 0, none⟩) 1 1) (hu : u.oneCell' = true)
    (hbytes : (n + 1) * bytes ≤ 140737488355328) (hb1 : 1 ≤ bytes) (hbase : base ≤ w.heap.size)
    (h : ∀ v' w', w'.ownsRow base e 1 v' (n + 1) (xs ++ [u]) → w.grownBy w' v.ownBlock → wpList P ops Q rest (a.put o.dst v') w') : wpList P ops Q (o :: rest) a (w.alloc (.cells #[u] e)) := by
  obtain ⟨i0, hi0, hz0, hz1, hz2⟩ := info_parts hi
  refine wpList_append_own _ hgd s x t ho base e i0 z 1 bytes ht hi0 hz0 hz1 hz2 hzs (by decide) v n xs hs (hown.alloc _) ⟨w.heap.size, 0, none⟩ 1 1 [u] hx rfl ?_ ?_ ?_ hbytes (by simp; omega) ?_
  · intro j u' hj
    match j, hj with
    | 0, hj => simp at hj; subst hj; simp [Addr.add, cell_of_row _ _ _ _ _ _ (heap_alloc_new w _)]
    | j + 1, hj => simp at hj
  · intro u' hu'; simp at hu'; subst hu'; exact hu
  · have : n + 1 ≤ (n + 1) * bytes := Nat.le_mul_of_pos_right _ hb1
    unfold maxLen; omega
  · intro v' w' h1 h2 _
    exact h v' w' h1 (grownBy_of_alloc h2)
theorem Blk.grown_cell {w w' : World} {g : Nat} {t : TypeId} {cs : List Value} {row : Option Nat} (h : Blk w g t cs) (hb : w.grownBy w' row) (hg : some g ≠ row) (i : Nat) (v : Value) (hi : cs[i]? = some v) :
    w'.cell? ⟨g, i, none⟩ = some v ∧ w'.frozen? ⟨g, i, none⟩ = false := ⟨by rw [(h.grown hb hg).cell, hi], (h.grown hb hg).frozen i⟩
theorem own_ne {w : World} {base : Nat} {e : TypeId} {size n g : Nat} {v : Value} {xs : List Value} (h : w.ownsRow base e size v n xs) (hg : g < base) : some g ≠ v.ownBlock := fun he => by
  have := (h.lt g he.symm).1; omega
theorem Below_own {B base : Nat} {a w w' : World} {e : TypeId} {size n : Nat} {v : Value} {xs : List Value} (h : Below B a w) (ho : w.ownsRow base e size v n xs) (hg : w.grownBy w' v.ownBlock) (hB : B ≤ base) (hs : base ≤ w.heap.size) : Below B a w' :=
  h.grown hg (by omega) (fun k hk => by have := (ho.lt k hk).1; omega)
theorem ownsRow_drewN {w : World} {base : Nat} {e : TypeId} {size n : Nat} {v : Value} {xs : List Value} (h : w.ownsRow base e size v n xs) (k : Nat) : (w.drewN k).ownsRow base e size v n xs := h
end Go.Proofs.Ytokidpajialgbaa
namespace Go.Proofs.Ytokidpajialgbaa
set_option linter.unusedSimpArgs false
set_option linter.unusedVariables false
open Go.RowKit
/-- a block of a tape -/
structure TB where
  id : Int := 0
  pause : Int := 0
  pilot : Int := 0
  sync1 : Int := 0
  sync2 : Int := 0
  zero : Int := 0
  one : Int := 0
  tone : Int := 0
  count : Int := 0
  used : Int := 0
  rate : Int := 0
  pack : Int := 0
  data : List Int := []
  times : List Int := []
  items : List (Int × List Int) := []
  pilots : List (Int × List Int) := []
  syms : List (Int × List Int) := []
  reps : List (Int × Int) := []
/-- its cells, over its six slices -/
def TB.cells (B : TB) (d t i p s r : Value) : List Value := [.int .i64 B.id, .int .i64 B.pause, .int .i64 B.pilot, .int .i64 B.sync1, .int .i64 B.sync2, .int .i64 B.zero, .int .i64 B.one, .int .i64 B.tone, .int .i64 B.count, .int .i64 B.used, .int .i64 B.rate, .int .i64 B.pack, d, t, i, p, s, r]
end Go.Proofs.Ytokidpajialgbaa
namespace Go.Proofs.Ytokidpajialgbaa
open Go.RowKit
/-- as wpList_app1; the new list is no nil: where it lies is told -/
theorem wpList_app1s {P : Program} (w : World) {ops : Array Oper} {rest : List Oper} {o : Oper} {a : Act} {Q : Exit → Act → World → Prop} (hgd : o.guard = none) (s x : Operand) (t : TypeId)
    (ho : o.op = .call { callee := .builtin .append, args := #[s, x], argTypes := #[t, t] })
    (base : Nat) (e : TypeId) (z : Value) (bytes : Nat) (ht : P.underlying t = some (.slice e)) (hi : (P.info? e).map (fun i => (i.zero, i.size, i.bytes)) = some (some z, 1, bytes)) (hzs : z.cells.size = 1)
    (v : Value) (n : Nat) (xs : List Value) (hs : a.eval s = v) (hown : w.ownsRow base e 1 v n xs) (u : Value) (hx : a.eval x = .slice (some ⟨w.heap.size, 0, none⟩) 1 1) (hu : u.oneCell' = true)
    (hbytes : (n + 1) * bytes ≤ 140737488355328) (hb1 : 1 ≤ bytes) (hbase : base ≤ w.heap.size)
    (h : ∀ g c w', w'.ownsRow base e 1 (.slice (some ⟨g, 0, none⟩) (n + 1) c) (n + 1) (xs ++ [u]) → w.grownBy w' v.ownBlock → wpList P ops Q rest (a.put o.dst (.slice (some ⟨g, 0, none⟩) (n + 1) c)) w') : wpList P ops Q (o :: rest) a (w.alloc (.cells #[u] e)) :=
  wpList_app1 w hgd s x t ho base e z bytes ht hi hzs v n xs hs hown u hx hu hbytes hb1 hbase fun v' w' h1 h2 => by
    obtain ⟨g, c, rfl, _⟩ := h1.form (by omega)
    exact h g c w' h1 h2
end Go.Proofs.Ytokidpajialgbaa
namespace Go.Proofs.Ytokidpajialgbaa
set_option linter.unusedSimpArgs false
set_option linter.unusedVariables false
open Go.RowKit
/-- cells that stand somewhere -/
theorem rangeBelow {w w' : World} {b o : Nat} {cs : List Value} (h : w.rangeAt b o cs) (hb : Below w.heap.size w w') : w'.rangeAt b o cs := fun j v hj => by
  have hc := h j v hj
  exact (hb.cell (block_lt_of_cell hc)).trans hc
/-- a slice of numbers -/
def RowV (w : World) (k : IntKind) (v : Value) (l : List Int) : Prop := ∃ A c, v = .slice A l.length c ∧ Ints w A k l ∧ l.length ≤ c ∧ c ≤ maxLen ∧ ∀ x ∈ l, (Lit.int k x).wf = true
/-- a slice of numbers, each with a slice of numbers -/
def PairsV (w : World) (k : IntKind) (v : Value) (l : List (Int × List Int)) : Prop := ∃ A c, v = .slice A l.length c ∧ l.length ≤ c ∧ c ≤ maxLen ∧ ∀ i x, l[i]? = some x → (Lit.int .i64 x.1).wf = true ∧ ∃ (g o : Nat) (rv : Value), A = some ⟨g, o, none⟩ ∧ w.rangeAt g (o + i * 2) [.int .i64 x.1, rv] ∧ RowV w k rv x.2
/-- a slice of two numbers each -/
def RepsV (w : World) (v : Value) (l : List (Int × Int)) : Prop := ∃ A c, v = .slice A l.length c ∧ l.length ≤ c ∧ c ≤ maxLen ∧ ∀ i x, l[i]? = some x → (Lit.int .i64 x.1).wf = true ∧ (Lit.int .i64 x.2).wf = true ∧ ∃ g o : Nat, A = some ⟨g, o, none⟩ ∧ w.rangeAt g (o + i * 2) [.int .i64 x.1, .int .i64 x.2]
def TB.nums (B : TB) : List Int := [B.id, B.pause, B.pilot, B.sync1, B.sync2, B.zero, B.one, B.tone, B.count, B.used, B.rate, B.pack]
/-- a block, by its cells -/
structure TBV (w : World) (cs : List Value) (B : TB) : Prop where
  wf : ∀ x ∈ B.nums, (Lit.int .i64 x).wf = true
  cells : ∃ d t i p s r, cs = B.cells d t i p s r ∧ RowV w .u8 d B.data ∧ RowV w .i64 t B.times ∧ PairsV w .u8 i B.items ∧ PairsV w .i64 p B.pilots ∧ PairsV w .i64 s B.syms ∧ RepsV w r B.reps
/-- a slice of blocks -/
def BlksV (w : World) (v : Value) (l : List TB) : Prop := ∃ A c, v = .slice A l.length c ∧ l.length ≤ c ∧ c ≤ maxLen ∧ ∀ i B, l[i]? = some B → ∃ (g o : Nat) (cs : List Value), A = some ⟨g, o, none⟩ ∧ w.rangeAt g (o + i * 18) cs ∧ TBV w cs B
section
variable {w w' : World} {v : Value} {k : IntKind}
theorem RowV.below {l : List Int} (h : RowV w k v l) (hb : Below w.heap.size w w') : RowV w' k v l := by
  obtain ⟨A, c, h1, h2, h3⟩ := h
  exact ⟨A, c, h1, Cells.below h2 hb, h3⟩
theorem PairsV.below {l : List (Int × List Int)} (h : PairsV w k v l) (hb : Below w.heap.size w w') : PairsV w' k v l := by
  obtain ⟨A, c, h1, h2, h3, h4⟩ := h
  refine ⟨A, c, h1, h2, h3, fun i x hi => ?_⟩
  obtain ⟨hw, g, o, rv, h5, h6, h7⟩ := h4 i x hi
  exact ⟨hw, g, o, rv, h5, rangeBelow h6 hb, h7.below hb⟩
theorem RepsV.below {l : List (Int × Int)} (h : RepsV w v l) (hb : Below w.heap.size w w') : RepsV w' v l := by
  obtain ⟨A, c, h1, h2, h3, h4⟩ := h
  refine ⟨A, c, h1, h2, h3, fun i x hi => ?_⟩
  obtain ⟨hw, hw2, g, o, h5, h6⟩ := h4 i x hi
  exact ⟨hw, hw2, g, o, h5, rangeBelow h6 hb⟩
theorem TBV.below {cs : List Value} {B : TB} (h : TBV w cs B) (hb : Below w.heap.size w w') : TBV w' cs B := by
  obtain ⟨hw, d, t, i, p, s, r, h1, h2, h3, h4, h5, h6, h7⟩ := h
  exact ⟨hw, d, t, i, p, s, r, h1, h2.below hb, h3.below hb, h4.below hb, h5.below hb, h6.below hb, h7.below hb⟩
theorem BlksV.below {l : List TB} (h : BlksV w v l) (hb : Below w.heap.size w w') : BlksV w' v l := by
  obtain ⟨A, c, h1, h2, h3, h4⟩ := h
  refine ⟨A, c, h1, h2, h3, fun i x hi => ?_⟩
  obtain ⟨g, o, cs, h5, h6, h7⟩ := h4 i x hi
  exact ⟨g, o, cs, h5, rangeBelow h6 hb, h7.below hb⟩
theorem TBV.len {cs : List Value} {B : TB} (h : TBV w cs B) : cs.length = 18 := by
  obtain ⟨_, d, t, i, p, s, r, h1, _⟩ := h
  rw [h1]; rfl
theorem PairsV.at {l : List (Int × List Int)} (h : PairsV w k v l) : ∃ A c, v = .slice A l.length c ∧ l.length ≤ maxLen := by
  obtain ⟨A, c, h1, h2, h3, _⟩ := h
  exact ⟨A, c, h1, by omega⟩
end
end Go.Proofs.Ytokidpajialgbaa
namespace Go.Proofs.Ytokidpajialgbaa
open Go.RowKit
/-- append of elements that lie in the block laid last, onto a row of the call's own; where the new row lies is told -/
theorem wpList_appL {P : Program} (w : World) {ops : Array Oper} {rest : List Oper} {o : Oper} {a : Act} {Q : Exit → Act → World → Prop} (hgd : o.guard = none) (s x : Operand) (t : TypeId)
    (ho : o.op = .call { callee := .builtin .append, args := #[s, x], argTypes := #[t, t] })
    (base : Nat) (e : TypeId) (z : Value) (size bytes : Nat) (ht : P.underlying t = some (.slice e)) (hi : (P.info? e).map (fun i => (i.zero, i.size, i.bytes)) = some (some z, size, bytes)) (hzs : z.cells.size = size) (hsz : 0 < size)
    (v : Value) (n : Nat) (xs : List Value) (hs : a.eval s = v) (hown : w.ownsRow base e size v n xs) (cs : Array Value) (m : Nat) (hx : a.eval x = .slice (some ⟨w.heap.size, 0, none⟩) m m) (hcs : cs.size = m * size) (hu : cs.all (·.oneCell') = true)
    (hm : 0 < m) (hbytes : (n + m) * bytes ≤ 140737488355328) (hb1 : 1 ≤ bytes) (hbase : base ≤ w.heap.size)
    (h : ∀ g c w', w'.ownsRow base e size (.slice (some ⟨g, 0, none⟩) (n + m) c) (n + m) (xs ++ cs.toList) → w.grownBy w' v.ownBlock → (v.ownBlock = some g ∨ w.heap.size ≤ g) → wpList P ops Q rest (a.put o.dst (.slice (some ⟨g, 0, none⟩) (n + m) c)) w') :
    wpList P ops Q (o :: rest) a (w.alloc (.cells cs e)) := by
  obtain ⟨i0, hi0, hz0, hz1, hz2⟩ := info_parts hi
  refine wpList_append_own_at _ hgd s x t ho base e i0 z size bytes ht hi0 hz0 hz1 hz2 hzs hsz v n xs hs (hown.alloc _) ⟨w.heap.size, 0, none⟩ m m cs.toList hx (by simpa using hcs) ?_ ?_ ?_ hbytes (by simp; omega) ?_
  · intro j u hj
    rw [Addr.add_mid, cell_of_row _ _ _ _ _ _ (heap_alloc_new w _)]
    simpa using hj
  · intro u hu'
    obtain ⟨j, hj, rfl⟩ := List.getElem_of_mem hu'
    rw [Array.all_eq_true] at hu
    exact hu j (by simpa using hj)
  · have : n + m ≤ (n + m) * bytes := Nat.le_mul_of_pos_right _ hb1
    unfold maxLen; omega
  · intro v' w' h1 h2 _ h4
    obtain ⟨g, c, rfl, _⟩ := h1.form (by omega)
    refine h g c w' h1 (grownBy_of_alloc h2) ?_
    rcases h4 with h4 | h4
    · exact .inl h4.symm
    · right
      have : g = w.heap.size + 1 := by simpa [Value.ownBlock] using h4
      omega
/-- two rows lie apart -/
def Apart (v v' : Value) : Prop := ∀ g, v.ownBlock = some g → v'.ownBlock ≠ some g
theorem Apart.symm {v v' : Value} (h : Apart v v') : Apart v' v := fun g h1 h2 => h g h2 h1
theorem Apart.nil (v : Value) : Apart (.slice none 0 0) v := fun g h => by simp [Value.ownBlock] at h
theorem Apart.kept {w w' : World} {v v' : Value} {base : Nat} {e : TypeId} {size n : Nat} {xs : List Value} (h : Apart v v') (ho : w.ownsRow base e size v' n xs) (hg : w.grownBy w' v.ownBlock) : w'.ownsRow base e size v' n xs := by
  refine ho.kept hg ?_
  cases hv : v'.ownBlock with
  | none => exact .inl rfl
  | some g => exact .inr fun e => h g e.symm hv
theorem Apart.step {w : World} {v v' : Value} {base : Nat} {e : TypeId} {size n g : Nat} {xs : List Value} {m c : Nat} (h : Apart v v') (ho : w.ownsRow base e size v' n xs) (hg : v.ownBlock = some g ∨ w.heap.size ≤ g) :
    Apart (.slice (some ⟨g, 0, none⟩) m c) v' := fun g' h1 h2 => by
  have : g = g' := by simpa [Value.ownBlock] using h1
  subst this
  rcases hg with hg | hg
  · exact h g hg h2
  · have := (ho.lt g h2).2; omega
end Go.Proofs.Ytokidpajialgbaa
namespace Go.Proofs.Ytokidpajialgbaa
set_option linter.unusedSimpArgs false
set_option linter.unusedVariables false
open Go.RowKit
/-- some truth value -/
def BoolP (w : World) (e : Ending) (w' : World) : Prop := (∃ b : Bool, e = .returned (.bool b)) ∧ Below w.heap.size w w'
/-- some number -/
def IsInt (v : Value) : Prop := ∃ N : Int, v = .int .i64 N
set_option maxRecDepth 100000 in
set_option maxHeartbeats 8000000 in
theorem light_bool (cs : List Value) (B : TB) (w : World) (h : TBV w cs B) : Calls Try.prog 8 #[.agg cs.toArray] w (BoolP w) := by
  obtain ⟨_, d, t, i, p, s, r, hcs, ⟨Ad, cd, rfl, -, hd1, hd2, -⟩, ⟨At, ct, rfl, -, ht1, ht2, -⟩, ⟨Ai, ci, rfl, hi1, hi2, hi⟩, ⟨Ap, cp, rfl, hp1, hp2, hp⟩, ⟨As, cS, rfl, hs1, hs2, hs⟩, ⟨Ar, cr, rfl, hr1, hr2, -⟩⟩ := h
  obtain ⟨b, hb⟩ : ∃ b, b = w.heap.size := ⟨_, rfl⟩
  obtain ⟨w1, hw1⟩ : ∃ w1, w1 = w.alloc (.cells cs.toArray 28) := ⟨_, rfl⟩
  have hB1 : Blk w1 b 28 cs := by rw [hw1, hb]; exact Blk.new w _ _
  have hbel : Below w.heap.size w w1 := by rw [hw1]; exact (Below.refl _ w).alloc (Nat.le_refl _) _
  have HBB := Lib.hid hb; have HW1 := Lib.hid hw1; have HBEL := Lib.hid hbel
  have c12 : w1.cell? ⟨b, 12, none⟩ = some (.slice Ad B.data.length cd) := (hB1.cell 12).trans (by rw [hcs]; rfl)
  have c13 : w1.cell? ⟨b, 13, none⟩ = some (.slice At B.times.length ct) := (hB1.cell 13).trans (by rw [hcs]; rfl)
  have c14 : w1.cell? ⟨b, 14, none⟩ = some (.slice Ai B.items.length ci) := (hB1.cell 14).trans (by rw [hcs]; rfl)
  have c15 : w1.cell? ⟨b, 15, none⟩ = some (.slice Ap B.pilots.length cp) := (hB1.cell 15).trans (by rw [hcs]; rfl)
  have c16 : w1.cell? ⟨b, 16, none⟩ = some (.slice As B.syms.length cS) := (hB1.cell 16).trans (by rw [hcs]; rfl)
  have c17 : w1.cell? ⟨b, 17, none⟩ = some (.slice Ar B.reps.length cr) := (hB1.cell 17).trans (by rw [hcs]; rfl)
  have Hi : Hid (∀ k x, B.items[k]? = some x → ∃ (g o : Nat) (A : Option Addr) (c : Nat), Ai = some ⟨g, o, none⟩ ∧ w1.cell? ⟨g, o + k * 2 + 1, none⟩ = some (.slice A x.2.length c)) := Lib.hid (fun k x hx => by
    obtain ⟨-, g, o, rv, h1, h2, A, c, h3, -⟩ := hi k x hx
    have h7 := (rangeBelow h2 hbel) 1 rv rfl
    rw [h3] at h7
    exact ⟨g, o, A, c, h1, h7⟩)
  have Hp : Hid (∀ k x, B.pilots[k]? = some x → ∃ (g o : Nat) (A : Option Addr) (c : Nat), Ap = some ⟨g, o, none⟩ ∧ w1.cell? ⟨g, o + k * 2 + 1, none⟩ = some (.slice A x.2.length c)) := Lib.hid (fun k x hx => by
    obtain ⟨-, g, o, rv, h1, h2, A, c, h3, -⟩ := hp k x hx
    have h7 := (rangeBelow h2 hbel) 1 rv rfl
    rw [h3] at h7
    exact ⟨g, o, A, c, h1, h7⟩)
  have Hs : Hid (∀ k x, B.syms[k]? = some x → ∃ (g o : Nat) (A : Option Addr) (c : Nat), As = some ⟨g, o, none⟩ ∧ w1.cell? ⟨g, o + k * 2 + 1, none⟩ = some (.slice A x.2.length c)) := Lib.hid (fun k x hx => by
    obtain ⟨-, g, o, rv, h1, h2, A, c, h3, -⟩ := hs k x hx
    have h7 := (rangeBelow h2 hbel) 1 rv rfl
    rw [h3] at h7
    exact ⟨g, o, A, c, h1, h7⟩)
  obtain ⟨ld, hld⟩ : ∃ x, x = B.data.length := ⟨_, rfl⟩
  rw [← hld] at c12
  obtain ⟨lt, hlt⟩ : ∃ x, x = B.times.length := ⟨_, rfl⟩
  rw [← hlt] at c13
  obtain ⟨lr, hlr⟩ : ∃ x, x = B.reps.length := ⟨_, rfl⟩
  rw [← hlr] at c17
  obtain ⟨li, hli⟩ : ∃ x, x = B.items.length := ⟨_, rfl⟩
  rw [← hli] at c14
  obtain ⟨lp, hlp⟩ : ∃ x, x = B.pilots.length := ⟨_, rfl⟩
  rw [← hlp] at c15
  obtain ⟨ls, hls⟩ : ∃ x, x = B.syms.length := ⟨_, rfl⟩
  rw [← hls] at c16
  have HLI := Lib.hid hli; have HLP := Lib.hid hlp; have HLS := Lib.hid hls
  have m0 : maxLen = 9223372036854775807 := rfl
  have HM : Hid (li ≤ 9223372036854775807 ∧ lp ≤ 9223372036854775807 ∧ ls ≤ 9223372036854775807) := Lib.hid ⟨by omega, by omega, by omega⟩
  clear hd1 hd2 ht1 ht2 hi1 hi2 hi hp1 hp2 hp hs1 hs2 hs hr1 hr2 hcs hb hw1 hB1 hbel hld hlt hlr hli hlp hls m0
  go_enter Try.func8, Try.ntmps8
  go_upto_region 1 with (first
    | (refine Great.wpList_boxTo rfl 28 (.tmp 0) rfl (some 1) rfl b HBB.out.symm cs.toArray rfl ?_; rw [← HW1.out]))
  go_wp2_with fail
  go_loopw [3, 4] (fun v idx wr => ∃ (k : Nat), idx = .int .i64 k ∧ IsInt v ∧ k ≤ li ∧ w1 = wr) (fun _ idx _ => li - (intOf idx).toNat)
  case atStart => exact ⟨0, rfl, ⟨_, rfl⟩, Nat.zero_le _, rfl⟩
  case round =>
    obtain ⟨k, rfl, ⟨N0, rfl⟩, hk, rfl⟩ := hrel
    by_cases hlt : k < li ∧ N0 < 100000
    · obtain ⟨hlt, hN⟩ := hlt
      have hlt2 : (k : Int) < li := by omega
      obtain ⟨x, hx⟩ : ∃ x, B.items[k]? = some x := ⟨_, List.getElem?_eq_getElem (by rw [← HLI.out]; exact hlt)⟩
      obtain ⟨g, o, A, c, rfl, hc⟩ := Hi.out k x hx
      have v2 : IntKind.i64.wrap ((k : Int) + 1) = ((k + 1 : Nat) : Int) := by rw [IntKind.wrap_i64]; have := HM.out; omega
      clear hx
      go_wp2_with fail
      go_roundw
      case rel => exact ⟨k + 1, by go_num, ⟨_, rfl⟩, by omega, by first | trivial | rfl⟩
      case measure => simp [intOf]; omega
    · have hor : (¬ (k : Int) < li) ∨ ((k : Int) < li ∧ ¬ N0 < 100000) := by omega
      clear hlt hk
      rcases hor with hq | ⟨hq, hq2⟩
      all_goals
        go_wp2_with fail
        try clear hq
        try clear hq2
        go_loopw [3, 5] (fun v idx wr => ∃ (k : Nat), idx = .int .i64 k ∧ IsInt v ∧ k ≤ lp ∧ w1 = wr) (fun _ idx _ => lp - (intOf idx).toNat)
        case atStart => exact ⟨0, rfl, ⟨_, rfl⟩, Nat.zero_le _, rfl⟩
        case round =>
          obtain ⟨k, rfl, ⟨N1, rfl⟩, hk, rfl⟩ := hrel
          by_cases hlt : k < lp ∧ N1 < 100000
          · obtain ⟨hlt, hN⟩ := hlt
            have hlt2 : (k : Int) < lp := by omega
            obtain ⟨x, hx⟩ : ∃ x, B.pilots[k]? = some x := ⟨_, List.getElem?_eq_getElem (by rw [← HLP.out]; exact hlt)⟩
            obtain ⟨g, o, A, c, rfl, hc⟩ := Hp.out k x hx
            have v2 : IntKind.i64.wrap ((k : Int) + 1) = ((k + 1 : Nat) : Int) := by rw [IntKind.wrap_i64]; have := HM.out; omega
            clear hx
            go_wp2_with fail
            go_roundw
            case rel => exact ⟨k + 1, by go_num, ⟨_, rfl⟩, by omega, by first | trivial | rfl⟩
            case measure => simp [intOf]; omega
          · have hor : (¬ (k : Int) < lp) ∨ ((k : Int) < lp ∧ ¬ N1 < 100000) := by omega
            clear hlt hk
            rcases hor with hq | ⟨hq, hq2⟩
            all_goals
              go_wp2_with fail
              try clear hq
              try clear hq2
              go_loopw [3, 6] (fun v idx wr => ∃ (k : Nat), idx = .int .i64 k ∧ IsInt v ∧ k ≤ ls ∧ w1 = wr) (fun _ idx _ => ls - (intOf idx).toNat)
              case atStart => exact ⟨0, rfl, ⟨_, rfl⟩, Nat.zero_le _, rfl⟩
              case round =>
                obtain ⟨k, rfl, ⟨N2, rfl⟩, hk, rfl⟩ := hrel
                by_cases hlt : k < ls ∧ N2 < 100000
                · obtain ⟨hlt, hN⟩ := hlt
                  have hlt2 : (k : Int) < ls := by omega
                  obtain ⟨x, hx⟩ : ∃ x, B.syms[k]? = some x := ⟨_, List.getElem?_eq_getElem (by rw [← HLS.out]; exact hlt)⟩
                  obtain ⟨g, o, A, c, rfl, hc⟩ := Hs.out k x hx
                  have v2 : IntKind.i64.wrap ((k : Int) + 1) = ((k + 1 : Nat) : Int) := by rw [IntKind.wrap_i64]; have := HM.out; omega
                  clear hx
                  go_wp2_with fail
                  go_roundw
                  case rel => exact ⟨k + 1, by go_num, ⟨_, rfl⟩, by omega, by first | trivial | rfl⟩
                  case measure => simp [intOf]; omega
                · have hor : (¬ (k : Int) < ls) ∨ ((k : Int) < ls ∧ ¬ N2 < 100000) := by omega
                  clear hlt hk
                  rcases hor with hq | ⟨hq, hq2⟩
                  all_goals
                    go_wp2_with fail
                    go_ret
                    exact ⟨⟨_, rfl⟩, HBEL.out⟩
end Go.Proofs.Ytokidpajialgbaa
