/- squealref06: PutPair, whole. -/
import Derived.Test.YtfhegloobldokaaRegX
namespace Go.Proofs.Ytfhegloobldokaa
set_option linter.unusedSimpArgs false
set_option linter.unusedVariables false
open Go.RowKit
set_option maxRecDepth 100000 in
set_option maxHeartbeats 8000000 in
theorem ppair_3 (r : Rg) (C : Array Value) (hC : C = r.cells.toArray) (ix v : Int) (w : World) (CX : Array Value) (hCX : CX = (r.putPair 3 ix v).cells.toArray) :
    Calls Try.prog 23 #[.agg C, .int .i64 3, .int .i64 ix, .int .u16 v] w (RegsBackP CX w) := by
  have hszX : CX.size = 30 := by rw [hCX]; exact (r.putPair 3 ix v).size
  have honeX : CX.all (·.oneCell') = true := by rw [hCX]; exact (r.putPair 3 ix v).one
  have e : CX = (C.setIfInBounds 21 (.int .u16 v)) := by rw [hCX, hC]; simp [Rg.putPair, Rg.cells]
  have HINX : Hid ((Try.prog.info? 24).map (·.size) = some (C.setIfInBounds 21 (.int .u16 v)).size) := by show _ = _; rw [← e]; exact info_of hszX
  have HONX : Hid ((C.setIfInBounds 21 (.int .u16 v)).all (·.oneCell') = true) := by show _ = _; rw [← e]; exact honeX
  have hzs : (#[.int .u8 0, .int .u8 0, .int .u8 0, .int .u8 0, .int .u8 0, .int .u8 0, .int .u8 0, .int .u8 0, .int .u8 0, .int .u8 0, .int .u8 0, .int .u8 0, .int .u8 0, .int .u8 0, .int .u8 0, .int .u8 0, .int .u8 0, .int .u8 0, .int .u8 0, .int .u16 0, .int .u16 0, .int .u16 0, .int .u16 0, .int .u16 0, .bool false, .bool false, .bool false, .bool false, .int .u8 0, .int .u8 0] : Array Value).size = (C.setIfInBounds 21 (.int .u16 v)).size := by rw [← e, hszX]; rfl
  have m21 : ((w.alloc (.cells C 24)).alloc (.cells #[.int .u8 0, .int .u8 0, .int .u8 0, .int .u8 0, .int .u8 0, .int .u8 0, .int .u8 0, .int .u8 0, .int .u8 0, .int .u8 0, .int .u8 0, .int .u8 0, .int .u8 0, .int .u8 0, .int .u8 0, .int .u8 0, .int .u8 0, .int .u8 0, .int .u8 0, .int .u16 0, .int .u16 0, .int .u16 0, .int .u16 0, .int .u16 0, .bool false, .bool false, .bool false, .bool false, .int .u8 0, .int .u8 0] 24)).cell? ⟨w.heap.size, 21, none⟩ = some (.int .u16 r.sp) := by
    have h : Blk ((w.alloc (.cells C 24)).alloc (.cells #[.int .u8 0, .int .u8 0, .int .u8 0, .int .u8 0, .int .u8 0, .int .u8 0, .int .u8 0, .int .u8 0, .int .u8 0, .int .u8 0, .int .u8 0, .int .u8 0, .int .u8 0, .int .u8 0, .int .u8 0, .int .u8 0, .int .u8 0, .int .u8 0, .int .u8 0, .int .u16 0, .int .u16 0, .int .u16 0, .int .u16 0, .int .u16 0, .bool false, .bool false, .bool false, .bool false, .int .u8 0, .int .u8 0] 24)) w.heap.size 24 r.cells := by
      have h := heap_alloc2_old w (.cells C 24) (.cells #[.int .u8 0, .int .u8 0, .int .u8 0, .int .u8 0, .int .u8 0, .int .u8 0, .int .u8 0, .int .u8 0, .int .u8 0, .int .u8 0, .int .u8 0, .int .u8 0, .int .u8 0, .int .u8 0, .int .u8 0, .int .u8 0, .int .u8 0, .int .u8 0, .int .u8 0, .int .u16 0, .int .u16 0, .int .u16 0, .int .u16 0, .int .u16 0, .bool false, .bool false, .bool false, .bool false, .int .u8 0, .int .u8 0] 24)
      rw [hC] at h ⊢
      exact h
    exact h.cell 21
  have z21 : ((w.alloc (.cells C 24)).alloc (.cells #[.int .u8 0, .int .u8 0, .int .u8 0, .int .u8 0, .int .u8 0, .int .u8 0, .int .u8 0, .int .u8 0, .int .u8 0, .int .u8 0, .int .u8 0, .int .u8 0, .int .u8 0, .int .u8 0, .int .u8 0, .int .u8 0, .int .u8 0, .int .u8 0, .int .u8 0, .int .u16 0, .int .u16 0, .int .u16 0, .int .u16 0, .int .u16 0, .bool false, .bool false, .bool false, .bool false, .int .u8 0, .int .u8 0] 24)).frozen? ⟨w.heap.size, 21, none⟩ = false := by
    have h : Blk ((w.alloc (.cells C 24)).alloc (.cells #[.int .u8 0, .int .u8 0, .int .u8 0, .int .u8 0, .int .u8 0, .int .u8 0, .int .u8 0, .int .u8 0, .int .u8 0, .int .u8 0, .int .u8 0, .int .u8 0, .int .u8 0, .int .u8 0, .int .u8 0, .int .u8 0, .int .u8 0, .int .u8 0, .int .u8 0, .int .u16 0, .int .u16 0, .int .u16 0, .int .u16 0, .int .u16 0, .bool false, .bool false, .bool false, .bool false, .int .u8 0, .int .u8 0] 24)) w.heap.size 24 r.cells := by
      have h := heap_alloc2_old w (.cells C 24) (.cells #[.int .u8 0, .int .u8 0, .int .u8 0, .int .u8 0, .int .u8 0, .int .u8 0, .int .u8 0, .int .u8 0, .int .u8 0, .int .u8 0, .int .u8 0, .int .u8 0, .int .u8 0, .int .u8 0, .int .u8 0, .int .u8 0, .int .u8 0, .int .u8 0, .int .u8 0, .int .u16 0, .int .u16 0, .int .u16 0, .int .u16 0, .int .u16 0, .bool false, .bool false, .bool false, .bool false, .int .u8 0, .int .u8 0] 24)
      rw [hC] at h ⊢
      exact h
    exact h.frozen 21
  have HE := Lib.hid e
  clear hC hCX honeX hszX e
  go_enter Try.func23, Try.ntmps23
  go_wp2_with (first
    | (refine wpList_load_row rfl 24 (.tmp 4) rfl w.heap.size rfl 24 (C.setIfInBounds 21 (.int .u16 v)) (0, 0) _ (heap_alloc2_old w _ _) Try.underlying24 rfl HINX.out ?_)
    | (refine wpList_store_rowTo rfl 24 (.tmp 8) (.tmp 13) rfl rfl (w.heap.size + 1) _ rfl rfl 24 _ (heap_alloc2_new w _ _) HINX.out hzs HONX.out ?_))
  rw [HE.out]
  exact bodyPost_ret (v := .agg (C.setIfInBounds 21 (.int .u16 v))) (results_cell_row rfl _ _ (w.heap.size + 1) 24 (C.setIfInBounds 21 (.int .u16 v)) (0, 0) _ rfl (setRow_heap _ _ _ _ _ _ (heap_alloc2_new w _ _)) Try.underlying24 rfl HINX.out) rfl ⟨rfl, below_setRow (((Below.refl _ w).alloc (Nat.le_refl _) _).alloc (by simp) _) (by omega) _⟩
theorem ppair_any (r : Rg) (hr : r.Ok) (C : Array Value) (hC : C = r.cells.toArray) (k ix v : Int) (w : World) (hv : B16 v) (CX : Array Value) (hCX : CX = (r.putPair k ix v).cells.toArray) :
    Calls Try.prog 23 #[.agg C, .int .i64 k, .int .i64 ix, .int .u16 v] w (RegsBackP CX w) := by
  have kk : k = 0 ∨ k = 1 ∨ k = 2 ∨ k = 3 ∨ (k < 0 ∨ 3 < k) := by omega
  rcases kk with rfl | rfl | rfl | rfl | h
  · exact ppair_0 r hr C hC ix v w hv CX hCX
  · exact ppair_1 r hr C hC ix v w hv CX hCX
  · exact ppair_2 r hr C hC ix v w hv CX hCX
  · exact ppair_3 r C hC ix v w CX hCX
  · have n : k ≠ 0 ∧ k ≠ 1 ∧ k ≠ 2 ∧ k ≠ 3 := by omega
    have e : r.putPair k ix v = r := by simp [Rg.putPair, n]
    rw [e, ← hC] at hCX
    rw [hCX]
    exact ppair_no r C hC k ix v w h
end Go.Proofs.Ytfhegloobldokaa
