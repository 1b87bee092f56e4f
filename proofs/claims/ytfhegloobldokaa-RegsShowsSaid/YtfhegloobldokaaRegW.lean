/- squealref06: PutPair. -/
import Derived.Test.YtfhegloobldokaaRegR
import Derived.Test.YtfhegloobldokaaRegV
namespace Go.Proofs.Ytfhegloobldokaa
set_option linter.unusedSimpArgs false
set_option linter.unusedVariables false
open Go.RowKit
theorem putPair_puts (r : Rg) (hr : r.Ok) (k ix v : Int) (hv : B16 v) (h : k = 0 ∨ k = 1 ∨ k = 2) : (r.putByte (2 * k) ix (v / 256)).putByte (2 * k + 1) ix (v % 256) = r.putPair k ix v := by
  obtain ⟨v0, v1⟩ := hv
  have hx := hr.ix
  have hy := hr.iy
  obtain ⟨x0, x1⟩ := hx
  obtain ⟨y0, y1⟩ := hy
  rcases h with rfl | rfl | rfl <;> rcases ix_cases ix with rfl | rfl | ⟨n1, n2⟩
  all_goals (simp [Rg.putPair, Rg.putByte, *]; try omega)
set_option maxRecDepth 100000 in
set_option maxHeartbeats 8000000 in
theorem ppair_no (r : Rg) (C : Array Value) (hC : C = r.cells.toArray) (k ix v : Int) (w : World) (h : k < 0 ∨ 3 < k) :
    Calls Try.prog 23 #[.agg C, .int .i64 k, .int .i64 ix, .int .u16 v] w (RegsBackP C w) := by
  have hsz : C.size = 30 := by rw [hC]; exact r.size
  have hone : C.all (·.oneCell') = true := by rw [hC]; exact r.one
  have HINF := Lib.hid (info_of hsz); have HONE := Lib.hid hone
  obtain ⟨V, hV, f0, f1, BV, sV⟩ := boxed w C #[.int .u8 0, .int .u8 0, .int .u8 0, .int .u8 0, .int .u8 0, .int .u8 0, .int .u8 0, .int .u8 0, .int .u8 0, .int .u8 0, .int .u8 0, .int .u8 0, .int .u8 0, .int .u8 0, .int .u8 0, .int .u8 0, .int .u8 0, .int .u8 0, .int .u8 0, .int .u16 0, .int .u16 0, .int .u16 0, .int .u16 0, .int .u16 0, .bool false, .bool false, .bool false, .bool false, .int .u8 0, .int .u8 0] 24 24
  have HV := Lib.hid hV; have HBV := Lib.hid BV
  have k3 : (k == 3) = false := by simp; omega
  clear hV BV sV hone hC
  have F2 := Lib.hid f0; have Z2 := Lib.hid f1
  clear f0 f1
  rcases h with kk | kk
  · go_enter Try.func23, Try.ntmps23
    go_wp2_with (first
      | (refine wpList_load_row rfl 24 (.tmp 4) rfl w.heap.size rfl 24 C (0, 0) _ (heap_alloc2_old w _ _) Try.underlying24 rfl HINF.out ?_; rw [← HV.out])
      | (refine wpList_store_rowTo rfl 24 (.tmp 8) (.tmp 20) rfl rfl (w.heap.size + 1) _ rfl rfl 24 _ Z2.out HINF.out hsz.symm HONE.out ?_))
    exact bodyPost_ret (v := .agg C) (results_cell_row rfl _ _ (w.heap.size + 1) 24 C (0, 0) _ rfl (setRow_heap _ _ _ _ _ _ Z2.out) Try.underlying24 rfl HINF.out) rfl ⟨rfl, below_setRow HBV.out (by omega) _⟩
  · go_enter Try.func23, Try.ntmps23
    go_wp2_with (first
      | (refine wpList_load_row rfl 24 (.tmp 4) rfl w.heap.size rfl 24 C (0, 0) _ (heap_alloc2_old w _ _) Try.underlying24 rfl HINF.out ?_; rw [← HV.out])
      | (refine wpList_store_rowTo rfl 24 (.tmp 8) (.tmp 20) rfl rfl (w.heap.size + 1) _ rfl rfl 24 _ Z2.out HINF.out hsz.symm HONE.out ?_))
    exact bodyPost_ret (v := .agg C) (results_cell_row rfl _ _ (w.heap.size + 1) 24 C (0, 0) _ rfl (setRow_heap _ _ _ _ _ _ Z2.out) Try.underlying24 rfl HINF.out) rfl ⟨rfl, below_setRow HBV.out (by omega) _⟩
end Go.Proofs.Ytfhegloobldokaa
