/- squealref06: PutPair: where something is put. -/
import Derived.Test.YtfhegloobldokaaRegW
namespace Go.Proofs.Ytfhegloobldokaa
set_option linter.unusedSimpArgs false
set_option linter.unusedVariables false
open Go.RowKit
set_option maxRecDepth 100000 in
set_option maxHeartbeats 8000000 in
theorem ppair_0 (r : Rg) (hr : r.Ok) (C : Array Value) (hC : C = r.cells.toArray) (ix v : Int) (w : World) (hv : B16 v) (CX : Array Value) (hCX : CX = (r.putPair 0 ix v).cells.toArray) :
    Calls Try.prog 23 #[.agg C, .int .i64 0, .int .i64 ix, .int .u16 v] w (RegsBackP CX w) := by
  have hsz : C.size = 30 := by rw [hC]; exact r.size
  have hszX : CX.size = 30 := by rw [hCX]; exact (r.putPair 0 ix v).size
  have honeX : CX.all (·.oneCell') = true := by rw [hCX]; exact (r.putPair 0 ix v).one
  have HINF := Lib.hid (info_of hsz); have HINX := Lib.hid (info_of hszX); have HONX := Lib.hid honeX; have HSX := Lib.hid hszX
  obtain ⟨V, hV, f0, f1, BV, sV⟩ := boxed w C #[.int .u8 0, .int .u8 0, .int .u8 0, .int .u8 0, .int .u8 0, .int .u8 0, .int .u8 0, .int .u8 0, .int .u8 0, .int .u8 0, .int .u8 0, .int .u8 0, .int .u8 0, .int .u8 0, .int .u8 0, .int .u8 0, .int .u8 0, .int .u8 0, .int .u8 0, .int .u16 0, .int .u16 0, .int .u16 0, .int .u16 0, .int .u16 0, .bool false, .bool false, .bool false, .bool false, .int .u8 0, .int .u8 0] 24 24
  have HV := Lib.hid hV; have HBV := Lib.hid BV; have Z2 := Lib.hid f1; have HSV := Lib.hid sV
  have e := putPair_puts r hr 0 ix v hv (by omega)
  obtain ⟨X1, hX1⟩ : ∃ X1, X1 = r.putByte (2 * 0) ix (v / 256) := ⟨_, rfl⟩
  have ok1 : X1.Ok := by rw [hX1]; exact r.put_ok hr _ ix _ (b8_hi hv)
  obtain ⟨C1, hC1⟩ : ∃ C1 : Array Value, C1 = X1.cells.toArray := ⟨_, rfl⟩
  have HP1 := Lib.hid (fun u => put_all r hr C hC (2 * 0) ix (v / 256) u (b8_hi hv) X1 hX1 C1 hC1)
  rw [← hX1] at e
  have HP2 := Lib.hid (fun u => put_all X1 ok1 C1 hC1 (2 * 0 + 1) ix (v % 256) u (b8_lo hv) (r.putPair 0 ix v) e.symm CX hCX)
  obtain ⟨v0, v1⟩ := hv
  clear hV f0 f1 BV sV hC hCX hr honeX hszX hX1 ok1 hC1 e
  go_enter Try.func23, Try.ntmps23
  go_wp2_with (first
    | (refine wpList_load_row rfl 24 (.tmp 4) rfl w.heap.size rfl 24 C (0, 0) _ (heap_alloc2_old w _ _) Try.underlying24 rfl HINF.out ?_; rw [← HV.out]))
  refine (HP1.out _).mono ?_
  rintro e w2 ⟨rfl, hb2⟩
  have H2 := Lib.hid hb2
  clear hb2
  go_wp2_with fail
  refine (HP2.out _).mono ?_
  rintro e w3 ⟨rfl, hb3⟩
  have hb23 := H2.out.trans (hb3.mono H2.out.size)
  have Z3 := (hb23.block (w.heap.size + 1) (by have := HSV.out; omega)).trans Z2.out
  have E3 := Lib.hid (HBV.out.trans (hb23.mono HBV.out.size))
  have hzs : (#[.int .u8 0, .int .u8 0, .int .u8 0, .int .u8 0, .int .u8 0, .int .u8 0, .int .u8 0, .int .u8 0, .int .u8 0, .int .u8 0, .int .u8 0, .int .u8 0, .int .u8 0, .int .u8 0, .int .u8 0, .int .u8 0, .int .u8 0, .int .u8 0, .int .u8 0, .int .u16 0, .int .u16 0, .int .u16 0, .int .u16 0, .int .u16 0, .bool false, .bool false, .bool false, .bool false, .int .u8 0, .int .u8 0] : Array Value).size = CX.size := by rw [HSX.out]; rfl
  clear hb3 hb23
  go_wp2_with (first
    | (refine wpList_store_rowTo rfl 24 (.tmp 8) (.tmp 38) rfl rfl (w.heap.size + 1) _ rfl rfl 24 _ Z3 HINX.out hzs HONX.out ?_))
  exact bodyPost_ret (v := .agg CX) (results_cell_row rfl _ _ (w.heap.size + 1) 24 CX (0, 0) _ rfl (setRow_heap _ _ _ _ _ _ Z3) Try.underlying24 rfl HINX.out) rfl ⟨rfl, below_setRow E3.out (by omega) _⟩
set_option maxRecDepth 100000 in
set_option maxHeartbeats 8000000 in
theorem ppair_1 (r : Rg) (hr : r.Ok) (C : Array Value) (hC : C = r.cells.toArray) (ix v : Int) (w : World) (hv : B16 v) (CX : Array Value) (hCX : CX = (r.putPair 1 ix v).cells.toArray) :
    Calls Try.prog 23 #[.agg C, .int .i64 1, .int .i64 ix, .int .u16 v] w (RegsBackP CX w) := by
  have hsz : C.size = 30 := by rw [hC]; exact r.size
  have hszX : CX.size = 30 := by rw [hCX]; exact (r.putPair 1 ix v).size
  have honeX : CX.all (·.oneCell') = true := by rw [hCX]; exact (r.putPair 1 ix v).one
  have HINF := Lib.hid (info_of hsz); have HINX := Lib.hid (info_of hszX); have HONX := Lib.hid honeX; have HSX := Lib.hid hszX
  obtain ⟨V, hV, f0, f1, BV, sV⟩ := boxed w C #[.int .u8 0, .int .u8 0, .int .u8 0, .int .u8 0, .int .u8 0, .int .u8 0, .int .u8 0, .int .u8 0, .int .u8 0, .int .u8 0, .int .u8 0, .int .u8 0, .int .u8 0, .int .u8 0, .int .u8 0, .int .u8 0, .int .u8 0, .int .u8 0, .int .u8 0, .int .u16 0, .int .u16 0, .int .u16 0, .int .u16 0, .int .u16 0, .bool false, .bool false, .bool false, .bool false, .int .u8 0, .int .u8 0] 24 24
  have HV := Lib.hid hV; have HBV := Lib.hid BV; have Z2 := Lib.hid f1; have HSV := Lib.hid sV
  have e := putPair_puts r hr 1 ix v hv (by omega)
  obtain ⟨X1, hX1⟩ : ∃ X1, X1 = r.putByte (2 * 1) ix (v / 256) := ⟨_, rfl⟩
  have ok1 : X1.Ok := by rw [hX1]; exact r.put_ok hr _ ix _ (b8_hi hv)
  obtain ⟨C1, hC1⟩ : ∃ C1 : Array Value, C1 = X1.cells.toArray := ⟨_, rfl⟩
  have HP1 := Lib.hid (fun u => put_all r hr C hC (2 * 1) ix (v / 256) u (b8_hi hv) X1 hX1 C1 hC1)
  rw [← hX1] at e
  have HP2 := Lib.hid (fun u => put_all X1 ok1 C1 hC1 (2 * 1 + 1) ix (v % 256) u (b8_lo hv) (r.putPair 1 ix v) e.symm CX hCX)
  obtain ⟨v0, v1⟩ := hv
  clear hV f0 f1 BV sV hC hCX hr honeX hszX hX1 ok1 hC1 e
  go_enter Try.func23, Try.ntmps23
  go_wp2_with (first
    | (refine wpList_load_row rfl 24 (.tmp 4) rfl w.heap.size rfl 24 C (0, 0) _ (heap_alloc2_old w _ _) Try.underlying24 rfl HINF.out ?_; rw [← HV.out]))
  refine (HP1.out _).mono ?_
  rintro e w2 ⟨rfl, hb2⟩
  have H2 := Lib.hid hb2
  clear hb2
  go_wp2_with fail
  refine (HP2.out _).mono ?_
  rintro e w3 ⟨rfl, hb3⟩
  have hb23 := H2.out.trans (hb3.mono H2.out.size)
  have Z3 := (hb23.block (w.heap.size + 1) (by have := HSV.out; omega)).trans Z2.out
  have E3 := Lib.hid (HBV.out.trans (hb23.mono HBV.out.size))
  have hzs : (#[.int .u8 0, .int .u8 0, .int .u8 0, .int .u8 0, .int .u8 0, .int .u8 0, .int .u8 0, .int .u8 0, .int .u8 0, .int .u8 0, .int .u8 0, .int .u8 0, .int .u8 0, .int .u8 0, .int .u8 0, .int .u8 0, .int .u8 0, .int .u8 0, .int .u8 0, .int .u16 0, .int .u16 0, .int .u16 0, .int .u16 0, .int .u16 0, .bool false, .bool false, .bool false, .bool false, .int .u8 0, .int .u8 0] : Array Value).size = CX.size := by rw [HSX.out]; rfl
  clear hb3 hb23
  go_wp2_with (first
    | (refine wpList_store_rowTo rfl 24 (.tmp 8) (.tmp 38) rfl rfl (w.heap.size + 1) _ rfl rfl 24 _ Z3 HINX.out hzs HONX.out ?_))
  exact bodyPost_ret (v := .agg CX) (results_cell_row rfl _ _ (w.heap.size + 1) 24 CX (0, 0) _ rfl (setRow_heap _ _ _ _ _ _ Z3) Try.underlying24 rfl HINX.out) rfl ⟨rfl, below_setRow E3.out (by omega) _⟩
set_option maxRecDepth 100000 in
set_option maxHeartbeats 8000000 in
theorem ppair_2 (r : Rg) (hr : r.Ok) (C : Array Value) (hC : C = r.cells.toArray) (ix v : Int) (w : World) (hv : B16 v) (CX : Array Value) (hCX : CX = (r.putPair 2 ix v).cells.toArray) :
    Calls Try.prog 23 #[.agg C, .int .i64 2, .int .i64 ix, .int .u16 v] w (RegsBackP CX w) := by
  have hsz : C.size = 30 := by rw [hC]; exact r.size
  have hszX : CX.size = 30 := by rw [hCX]; exact (r.putPair 2 ix v).size
  have honeX : CX.all (·.oneCell') = true := by rw [hCX]; exact (r.putPair 2 ix v).one
  have HINF := Lib.hid (info_of hsz); have HINX := Lib.hid (info_of hszX); have HONX := Lib.hid honeX; have HSX := Lib.hid hszX
  obtain ⟨V, hV, f0, f1, BV, sV⟩ := boxed w C #[.int .u8 0, .int .u8 0, .int .u8 0, .int .u8 0, .int .u8 0, .int .u8 0, .int .u8 0, .int .u8 0, .int .u8 0, .int .u8 0, .int .u8 0, .int .u8 0, .int .u8 0, .int .u8 0, .int .u8 0, .int .u8 0, .int .u8 0, .int .u8 0, .int .u8 0, .int .u16 0, .int .u16 0, .int .u16 0, .int .u16 0, .int .u16 0, .bool false, .bool false, .bool false, .bool false, .int .u8 0, .int .u8 0] 24 24
  have HV := Lib.hid hV; have HBV := Lib.hid BV; have Z2 := Lib.hid f1; have HSV := Lib.hid sV
  have e := putPair_puts r hr 2 ix v hv (by omega)
  obtain ⟨X1, hX1⟩ : ∃ X1, X1 = r.putByte (2 * 2) ix (v / 256) := ⟨_, rfl⟩
  have ok1 : X1.Ok := by rw [hX1]; exact r.put_ok hr _ ix _ (b8_hi hv)
  obtain ⟨C1, hC1⟩ : ∃ C1 : Array Value, C1 = X1.cells.toArray := ⟨_, rfl⟩
  have HP1 := Lib.hid (fun u => put_all r hr C hC (2 * 2) ix (v / 256) u (b8_hi hv) X1 hX1 C1 hC1)
  rw [← hX1] at e
  have HP2 := Lib.hid (fun u => put_all X1 ok1 C1 hC1 (2 * 2 + 1) ix (v % 256) u (b8_lo hv) (r.putPair 2 ix v) e.symm CX hCX)
  obtain ⟨v0, v1⟩ := hv
  clear hV f0 f1 BV sV hC hCX hr honeX hszX hX1 ok1 hC1 e
  go_enter Try.func23, Try.ntmps23
  go_wp2_with (first
    | (refine wpList_load_row rfl 24 (.tmp 4) rfl w.heap.size rfl 24 C (0, 0) _ (heap_alloc2_old w _ _) Try.underlying24 rfl HINF.out ?_; rw [← HV.out]))
  refine (HP1.out _).mono ?_
  rintro e w2 ⟨rfl, hb2⟩
  have H2 := Lib.hid hb2
  clear hb2
  go_wp2_with fail
  refine (HP2.out _).mono ?_
  rintro e w3 ⟨rfl, hb3⟩
  have hb23 := H2.out.trans (hb3.mono H2.out.size)
  have Z3 := (hb23.block (w.heap.size + 1) (by have := HSV.out; omega)).trans Z2.out
  have E3 := Lib.hid (HBV.out.trans (hb23.mono HBV.out.size))
  have hzs : (#[.int .u8 0, .int .u8 0, .int .u8 0, .int .u8 0, .int .u8 0, .int .u8 0, .int .u8 0, .int .u8 0, .int .u8 0, .int .u8 0, .int .u8 0, .int .u8 0, .int .u8 0, .int .u8 0, .int .u8 0, .int .u8 0, .int .u8 0, .int .u8 0, .int .u8 0, .int .u16 0, .int .u16 0, .int .u16 0, .int .u16 0, .int .u16 0, .bool false, .bool false, .bool false, .bool false, .int .u8 0, .int .u8 0] : Array Value).size = CX.size := by rw [HSX.out]; rfl
  clear hb3 hb23
  go_wp2_with (first
    | (refine wpList_store_rowTo rfl 24 (.tmp 8) (.tmp 38) rfl rfl (w.heap.size + 1) _ rfl rfl 24 _ Z3 HINX.out hzs HONX.out ?_))
  exact bodyPost_ret (v := .agg CX) (results_cell_row rfl _ _ (w.heap.size + 1) 24 CX (0, 0) _ rfl (setRow_heap _ _ _ _ _ _ Z3) Try.underlying24 rfl HINX.out) rfl ⟨rfl, below_setRow E3.out (by omega) _⟩
end Go.Proofs.Ytfhegloobldokaa
