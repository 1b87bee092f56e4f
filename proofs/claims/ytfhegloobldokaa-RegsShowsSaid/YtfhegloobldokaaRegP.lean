/- squealref06: Put: its walk. -/
import Derived.Test.YtfhegloobldokaaRegO
namespace Go.Proofs.Ytfhegloobldokaa
set_option linter.unusedSimpArgs false
set_option linter.unusedVariables false
open Go.RowKit
def zeroC : Array Value := #[.int .u8 0, .int .u8 0, .int .u8 0, .int .u8 0, .int .u8 0, .int .u8 0, .int .u8 0, .int .u8 0, .int .u8 0, .int .u8 0, .int .u8 0, .int .u8 0, .int .u8 0, .int .u8 0, .int .u8 0, .int .u8 0, .int .u8 0, .int .u8 0, .int .u8 0, .int .u16 0, .int .u16 0, .int .u16 0, .int .u16 0, .int .u16 0, .bool false, .bool false, .bool false, .bool false, .int .u8 0, .int .u8 0]
theorem zero_size : zeroC.size = 30 := rfl
theorem put_none (r : Rg) (k ix v : Int) (h : ¬ (0 ≤ k ∧ k ≤ 7 ∧ k ≠ 6)) : r.putByte k ix v = r := by
  have n : k ≠ 0 ∧ k ≠ 1 ∧ k ≠ 2 ∧ k ≠ 3 ∧ k ≠ 4 ∧ k ≠ 5 ∧ k ≠ 7 := by omega
  simp [Rg.putByte, n]
/-- registers are handed back -/
def RegsBackP (C : Array Value) (w : World) (e : Ending) (w' : World) : Prop := e = .returned (.agg C) ∧ Below w.heap.size w w'
set_option maxRecDepth 100000 in
set_option maxHeartbeats 8000000 in
theorem put_no (r : Rg) (hr : r.Ok) (C : Array Value) (hC : C = r.cells.toArray) (k ix v : Int) (w : World) (h : ¬ (0 ≤ k ∧ k ≤ 7 ∧ k ≠ 6)) :
    Calls Try.prog 28 #[.agg C, .int .i64 k, .int .i64 ix, .int .u8 v] w (RegsBackP C w) := by
  have hsz : C.size = 30 := by rw [hC]; exact r.size
  have hone : C.all (·.oneCell') = true := by rw [hC]; exact r.one
  have HINF := Lib.hid (info_of hsz); have HONE := Lib.hid hone
  obtain ⟨V, hV, f0, f1, BV, sV⟩ := boxed w C #[.int .u8 0, .int .u8 0, .int .u8 0, .int .u8 0, .int .u8 0, .int .u8 0, .int .u8 0, .int .u8 0, .int .u8 0, .int .u8 0, .int .u8 0, .int .u8 0, .int .u8 0, .int .u8 0, .int .u8 0, .int .u8 0, .int .u8 0, .int .u8 0, .int .u8 0, .int .u16 0, .int .u16 0, .int .u16 0, .int .u16 0, .int .u16 0, .bool false, .bool false, .bool false, .bool false, .int .u8 0, .int .u8 0] 24 24
  have HV := Lib.hid hV; have HBV := Lib.hid BV
  have HLI := Lib.hid (fun u => list_any r hr C hC ix u)
  have F0 := Lib.hid f0; have F1 := Lib.hid f1; have HSV := Lib.hid sV
  clear hV f0 f1 BV sV hone hC hr
  have kk : k < 0 ∨ 7 < k ∨ k = 6 := by omega
  clear h
  rcases kk with kk | kk | rfl
  · go_enter Try.func28, Try.ntmps28
    go_wp2_with (first
      | (refine wpList_load_row rfl 24 (.tmp 4) rfl w.heap.size rfl 24 C (0, 0) _ F2 Try.underlying24 rfl HINF.out ?_)
      | (refine wpList_store_rowTo rfl 24 (.tmp 8) (.tmp 24) rfl rfl (w.heap.size + 1) _ rfl rfl 24 _ Z2 HINF.out hsz.symm HONE.out ?_)
      | (refine wpList_load_row rfl 24 (.tmp 4) rfl w.heap.size rfl 24 C (0, 0) _ (heap_alloc2_old w _ _) Try.underlying24 rfl HINF.out ?_; rw [← HV.out])
      | (go_at_call 26; refine (HLI.out _).mono ?_; rintro e w2 ⟨gl, rfl, bl, hgl, hbl⟩; have F2 := (hbl.block w.heap.size (by have := HSV.out; omega)).trans F0.out; have Z2 := (hbl.block (w.heap.size + 1) (by have := HSV.out; omega)).trans F1.out; have HBL := Lib.hid hbl; clear hbl hgl bl))
    exact bodyPost_ret (v := .agg C) (results_cell_row rfl _ _ (w.heap.size + 1) 24 C (0, 0) _ rfl (setRow_heap _ _ _ _ _ _ Z2) Try.underlying24 rfl HINF.out) rfl ⟨rfl, below_setRow (HBV.out.trans (HBL.out.mono HBV.out.size)) (by omega) _⟩
  · go_enter Try.func28, Try.ntmps28
    go_wp2_with (first
      | (refine wpList_load_row rfl 24 (.tmp 4) rfl w.heap.size rfl 24 C (0, 0) _ F2 Try.underlying24 rfl HINF.out ?_)
      | (refine wpList_store_rowTo rfl 24 (.tmp 8) (.tmp 24) rfl rfl (w.heap.size + 1) _ rfl rfl 24 _ Z2 HINF.out hsz.symm HONE.out ?_)
      | (refine wpList_load_row rfl 24 (.tmp 4) rfl w.heap.size rfl 24 C (0, 0) _ (heap_alloc2_old w _ _) Try.underlying24 rfl HINF.out ?_; rw [← HV.out])
      | (go_at_call 26; refine (HLI.out _).mono ?_; rintro e w2 ⟨gl, rfl, bl, hgl, hbl⟩; have F2 := (hbl.block w.heap.size (by have := HSV.out; omega)).trans F0.out; have Z2 := (hbl.block (w.heap.size + 1) (by have := HSV.out; omega)).trans F1.out; have HBL := Lib.hid hbl; clear hbl hgl bl))
    exact bodyPost_ret (v := .agg C) (results_cell_row rfl _ _ (w.heap.size + 1) 24 C (0, 0) _ rfl (setRow_heap _ _ _ _ _ _ Z2) Try.underlying24 rfl HINF.out) rfl ⟨rfl, below_setRow (HBV.out.trans (HBL.out.mono HBV.out.size)) (by omega) _⟩
  · go_enter Try.func28, Try.ntmps28
    go_wp2_with (first
      | (refine wpList_load_row rfl 24 (.tmp 4) rfl w.heap.size rfl 24 C (0, 0) _ F2 Try.underlying24 rfl HINF.out ?_)
      | (refine wpList_store_rowTo rfl 24 (.tmp 8) (.tmp 24) rfl rfl (w.heap.size + 1) _ rfl rfl 24 _ Z2 HINF.out hsz.symm HONE.out ?_)
      | (refine wpList_load_row rfl 24 (.tmp 4) rfl w.heap.size rfl 24 C (0, 0) _ (heap_alloc2_old w _ _) Try.underlying24 rfl HINF.out ?_; rw [← HV.out])
      | (go_at_call 26; refine (HLI.out _).mono ?_; rintro e w2 ⟨gl, rfl, bl, hgl, hbl⟩; have F2 := (hbl.block w.heap.size (by have := HSV.out; omega)).trans F0.out; have Z2 := (hbl.block (w.heap.size + 1) (by have := HSV.out; omega)).trans F1.out; have HBL := Lib.hid hbl; clear hbl hgl bl))
    exact bodyPost_ret (v := .agg C) (results_cell_row rfl _ _ (w.heap.size + 1) 24 C (0, 0) _ rfl (setRow_heap _ _ _ _ _ _ Z2) Try.underlying24 rfl HINF.out) rfl ⟨rfl, below_setRow (HBV.out.trans (HBL.out.mono HBV.out.size)) (by omega) _⟩
end Go.Proofs.Ytfhegloobldokaa
