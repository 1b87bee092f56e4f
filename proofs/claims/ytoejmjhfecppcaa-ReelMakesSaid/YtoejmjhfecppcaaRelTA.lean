/- Reel in general: a row of one block built of a block's cells; a block's load under one name. -/
import Derived.Test.YtoejmjhfecppcaaRelS
import Derived.Test.YtoejmjhfecppcaaUnt
import Derived.Deep.DrawnRows
namespace Go.Proofs.Ytoejmjhfecppcaa
set_option linter.unusedSimpArgs false
set_option linter.unusedVariables false
open Go.RowKit Go.Sort
/-- a block's load, under one name -/
def IsLDB (LD : Nat → World → Result Value) : Prop := ∀ (g : Nat) (u : World), (loadVar 87 ⟨g, 0, none⟩).run Try.prog u = LD g u
theorem some_LDB : ∃ LD, IsLDB LD := ⟨fun g u => (loadVar 87 ⟨g, 0, none⟩).run Try.prog u, fun _ _ => rfl⟩
theorem LDB_of {LD : Nat → World → Result Value} (hl : IsLDB LD) {w : World} {g : Nat} {C : Array Value} (hs : some 18 = some C.size) (h : w.heap[g]? = some (.cells C 87 (0, 0))) : LD g w = .ok (.agg C) w :=
  (hl g w).symm.trans (run_loadVar_row (P := Try.prog) w g 87 87 C (0, 0) _ h Try.underlying87 rfl (sizeBlock.trans hs))
theorem blkV_form {w : World} {C : Array Value} {B : BlkL} (h : BlkV w C.toList B) : ∃ (x0 x1 x2 x3 x4 x5 x6 x7 x8 x9 x10 x11 : Int) (A0 A1 A2 A3 A4 A5 : Option Addr) (n0 n1 n2 n3 n4 n5 c0 c1 c2 c3 c4 c5 : Nat),
    C = #[.int .i64 x0, .int .i64 x1, .int .i64 x2, .int .i64 x3, .int .i64 x4, .int .i64 x5, .int .i64 x6, .int .i64 x7, .int .i64 x8, .int .i64 x9, .int .i64 x10, .int .i64 x11, .slice A0 n0 c0, .slice A1 n1 c1, .slice A2 n2 c2, .slice A3 n3 c3, .slice A4 n4 c4, .slice A5 n5 c5] := by
  obtain ⟨x0, x1, x2, x3, x4, x5, x6, x7, x8, x9, x10, x11, v12, v13, v14, v15, v16, v17, h1, h2, ⟨A0, n0, c0, rfl, _⟩, ⟨A1, n1, c1, rfl, _⟩, ⟨A2, n2, c2, rfl, _⟩, ⟨A3, n3, c3, rfl, _⟩, ⟨A4, n4, c4, rfl, _⟩, ⟨A5, n5, c5, rfl, _⟩⟩ := h
  refine ⟨x0, x1, x2, x3, x4, x5, x6, x7, x8, x9, x10, x11, A0, A1, A2, A3, A4, A5, n0, n1, n2, n3, n4, n5, c0, c1, c2, c3, c4, c5, ?_⟩
  apply Array.toList_inj.1
  rw [h2]
theorem blkV_size {w : World} {C : Array Value} {B : BlkL} (h : BlkV w C.toList B) : C.size = 18 := by
  obtain ⟨x0, x1, x2, x3, x4, x5, x6, x7, x8, x9, x10, x11, A0, A1, A2, A3, A4, A5, n0, n1, n2, n3, n4, n5, c0, c1, c2, c3, c4, c5, e⟩ := blkV_form h
  rw [e]; rfl
theorem blkV_one {w : World} {C : Array Value} {B : BlkL} (h : BlkV w C.toList B) : C.all (·.oneCell') = true := by
  obtain ⟨x0, x1, x2, x3, x4, x5, x6, x7, x8, x9, x10, x11, A0, A1, A2, A3, A4, A5, n0, n1, n2, n3, n4, n5, c0, c1, c2, c3, c4, c5, e⟩ := blkV_form h
  rw [e]; simp [Value.oneCell']
set_option maxRecDepth 100000 in
set_option maxHeartbeats 2000000 in
theorem build_blk {w : World} {C : Array Value} {B : BlkL} (h : BlkV w C.toList B) (u : World) : (Instr.buildSlice 24 1 #[(0, .agg C)]).run Try.prog u = .ok (.slice (some ⟨u.heap.size, 0, none⟩) 1 1) (u.alloc (.cells C 87)) := by
  obtain ⟨x0, x1, x2, x3, x4, x5, x6, x7, x8, x9, x10, x11, A0, A1, A2, A3, A4, A5, n0, n1, n2, n3, n4, n5, c0, c1, c2, c3, c4, c5, e⟩ := blkV_form h
  obtain ⟨i0, hi, hz0, hz1, hz2⟩ := info_parts infoBlock
  refine run_buildSlice u 24 87 1 _ C i0 _ Try.underlying24 hi hz0 (by rw [hz1]; decide) (by rw [hz1]; decide) ?_
  rw [hz1, e]
  kernel_rfl
theorem shorts_zero {l : List Int} {y : Int} (h : l[0]? = some y) (hs : shortsN l = 0) : 65535 < y := by
  cases l with
  | nil => simp at h
  | cons x l =>
    simp at h
    subst h
    unfold shortsN at hs
    simp only [shortsF] at hs
    by_cases hx : x ≤ 65535
    · rw [if_pos hx] at hs; omega
    · omega
end Go.Proofs.Ytoejmjhfecppcaa
