/- squealref06: Put: its walk where a byte is put. -/
import Derived.Test.YtfhegloobldokaaRegP
namespace Go.Proofs.Ytfhegloobldokaa
set_option linter.unusedSimpArgs false
set_option linter.unusedVariables false
open Go.RowKit
set_option maxRecDepth 100000 in
set_option maxHeartbeats 8000000 in
theorem put_one (r : Rg) (hr : r.Ok) (C : Array Value) (hC : C = r.cells.toArray) (κ : Nat) (v : Int) (w : World) (hv : B8 v) (h : 0 ≤ (κ : Int) ∧ (κ : Int) ≤ 7 ∧ (κ : Int) ≠ 6) (X : Rg) (hX : X = r.putByte κ 1 v) (CX : Array Value) (hCX : CX = X.cells.toArray) :
    Calls Try.prog 28 #[.agg C, .int .i64 κ, .int .i64 1, .int .u8 v] w (RegsBackP CX w) := by
  have hsz : C.size = 30 := by rw [hC]; exact r.size
  have hone : C.all (·.oneCell') = true := by rw [hC]; exact r.one
  have hszX : CX.size = 30 := by rw [hCX]; exact X.size
  have honeX : CX.all (·.oneCell') = true := by rw [hCX]; exact X.one
  have HINF := Lib.hid (info_of hsz); have HINX := Lib.hid (info_of hszX); have HONX := Lib.hid honeX
  obtain ⟨V, hV, f0, f1, BV, sV⟩ := boxed w C #[.int .u8 0, .int .u8 0, .int .u8 0, .int .u8 0, .int .u8 0, .int .u8 0, .int .u8 0, .int .u8 0, .int .u8 0, .int .u8 0, .int .u8 0, .int .u8 0, .int .u8 0, .int .u8 0, .int .u8 0, .int .u8 0, .int .u8 0, .int .u8 0, .int .u8 0, .int .u16 0, .int .u16 0, .int .u16 0, .int .u16 0, .int .u16 0, .bool false, .bool false, .bool false, .bool false, .int .u8 0, .int .u8 0] 24 24
  have HV := Lib.hid hV; have HBV := Lib.hid BV
  have HLI := Lib.hid (fun u => list_any r hr C hC 1 u)
  have f0b : Blk V w.heap.size 24 r.cells := by
    have h := f0
    rw [hC] at h
    exact h
  obtain ⟨ZL, hZL⟩ : ∃ ZL : List Value, ZL = #[.int .u8 0, .int .u8 0, .int .u8 0, .int .u8 0, .int .u8 0, .int .u8 0, .int .u8 0, .int .u8 0, .int .u8 0, .int .u8 0, .int .u8 0, .int .u8 0, .int .u8 0, .int .u8 0, .int .u8 0, .int .u8 0, .int .u8 0, .int .u8 0, .int .u8 0, .int .u16 0, .int .u16 0, .int .u16 0, .int .u16 0, .int .u16 0, .bool false, .bool false, .bool false, .bool false, .int .u8 0, .int .u8 0].toList := ⟨_, rfl⟩
  have f1b : Blk V (w.heap.size + 1) 24 ZL := by rw [hZL]; exact f1
  have zsz : ZL.toArray.size = CX.size := by rw [hszX, hZL]; rfl
  have F0 := Lib.hid f0b; have F1 := Lib.hid f1b; have HSV := Lib.hid sV; have HZS := Lib.hid zsz
  have HLP := Lib.hid (list_put r hr κ 1 v hv h)
  have HCP := Lib.hid (cells_put1 r hr κ v hv h X hX)
  have bp := X.byte_b8 (by rw [hX]; exact r.put_ok hr κ 1 v hv) 4 1
  have bq := X.byte_b8 (by rw [hX]; exact r.put_ok hr κ 1 v hv) 5 1
  rw [← hX] at HLP
  have HXL : Hid (X.list 1 = [.int .u8 X.b, .int .u8 X.c, .int .u8 X.d, .int .u8 X.e, .int .u8 (X.byte 4 1), .int .u8 (X.byte 5 1), .int .u8 0, .int .u8 X.a]) := rfl
  obtain ⟨p, hp⟩ : ∃ p, p = X.byte 4 1 := ⟨_, rfl⟩
  obtain ⟨q, hq⟩ : ∃ q, q = X.byte 5 1 := ⟨_, rfl⟩
  rw [← hp] at bp HCP HXL
  rw [← hq] at bq HCP HXL
  obtain ⟨p0, p1⟩ := bp
  obtain ⟨qq0, qq1⟩ := bq
  have e2 : IntKind.i64.wrap (256 * p) = 256 * p := by rw [IntKind.wrap_i64]; omega
  have e3 : IntKind.i64.wrap (256 * p + q) = 256 * p + q := by rw [IntKind.wrap_i64]; omega
  have e4 : IntKind.u16.wrap (256 * p + q) = 256 * p + q := by rw [IntKind.wrap_u16]; omega
  have HCX := Lib.hid hCX
  have kb : ((κ : Int) == 6) = false := by simp [h.2.2]
  have k0 : (κ : Int) ≤ 7 := h.2.1
  have kl : κ < (r.list 1).length := by show κ < 8; omega
  have HKL := Lib.hid kl
  clear hV f0 f1 f0b f1b BV sV hone honeX hC hr zsz hp hq hX hCX h hv hZL kl
  go_enter Try.func28, Try.ntmps28
  go_wp2_with (first
    | (refine wpList_load_row rfl 24 (.tmp 4) rfl w.heap.size rfl 24 C (0, 0) _ (heap_alloc2_old w _ _) Try.underlying24 rfl HINF.out ?_; rw [← HV.out]))
  refine (HLI.out _).mono ?_
  rintro e w2 ⟨gl, rfl, bl, hgl, hbl⟩
  have hvs := HSV.out
  have hne : ¬ gl = w.heap.size := (by omega)
  have hne' : ¬ w.heap.size = gl := (by omega)
  have hc := (bl.cell κ).trans (List.getElem?_eq_getElem HKL.out)
  have hfz := bl.frozen κ
  have FB := Lib.hid ((F0.out.below_ hbl).far (p := ⟨gl, κ, none⟩) hne' (.int .u8 v))
  have ZB := Lib.hid ((F1.out.below_ hbl).far (p := ⟨gl, κ, none⟩) (by show w.heap.size + 1 ≠ gl; omega) (.int .u8 v))
  have E3 : Hid (Below w.heap.size w (w2.setCell ⟨gl, κ, none⟩ (.int .u8 v))) := (HBV.out.trans (hbl.mono HBV.out.size)).setCell (by show w.heap.size ≤ gl; omega) _
  have lb := bl.set_ κ (.int .u8 v)
  rw [show (κ : Nat) = (κ : Int).toNat from rfl, HLP.out, HXL.out] at lb
  have LB : Hid (Blk (w2.setCell ⟨gl, κ, none⟩ (.int .u8 v)) gl 5 [.int .u8 X.b, .int .u8 X.c, .int .u8 X.d, .int .u8 X.e, .int .u8 p, .int .u8 q, .int .u8 0, .int .u8 X.a]) := lb
  clear lb hbl hgl bl hvs
  have q0 : (w2.setCell ⟨gl, κ, none⟩ (.int .u8 v)).cell? ⟨gl, 0, none⟩ = some (.int .u8 X.b) := LB.out.cell 0
  have q1 : (w2.setCell ⟨gl, κ, none⟩ (.int .u8 v)).cell? ⟨gl, 1, none⟩ = some (.int .u8 X.c) := LB.out.cell 1
  have q2 : (w2.setCell ⟨gl, κ, none⟩ (.int .u8 v)).cell? ⟨gl, 2, none⟩ = some (.int .u8 X.d) := LB.out.cell 2
  have q3 : (w2.setCell ⟨gl, κ, none⟩ (.int .u8 v)).cell? ⟨gl, 3, none⟩ = some (.int .u8 X.e) := LB.out.cell 3
  have q4 : (w2.setCell ⟨gl, κ, none⟩ (.int .u8 v)).cell? ⟨gl, 4, none⟩ = some (.int .u8 p) := LB.out.cell 4
  have q5 : (w2.setCell ⟨gl, κ, none⟩ (.int .u8 v)).cell? ⟨gl, 5, none⟩ = some (.int .u8 q) := LB.out.cell 5
  have q7 : (w2.setCell ⟨gl, κ, none⟩ (.int .u8 v)).cell? ⟨gl, 7, none⟩ = some (.int .u8 X.a) := LB.out.cell 7
  have m2 : (w2.setCell ⟨gl, κ, none⟩ (.int .u8 v)).cell? ⟨w.heap.size, 2, none⟩ = some (.int .u8 r.b) := FB.out.cell 2
  have z2 := FB.out.frozen 2
  have m3 : (w2.setCell ⟨gl, κ, none⟩ (.int .u8 v)).cell? ⟨w.heap.size, 3, none⟩ = some (.int .u8 r.c) := FB.out.cell 3
  have z3 := FB.out.frozen 3
  have m4 : (w2.setCell ⟨gl, κ, none⟩ (.int .u8 v)).cell? ⟨w.heap.size, 4, none⟩ = some (.int .u8 r.d) := FB.out.cell 4
  have z4 := FB.out.frozen 4
  have m5 : (w2.setCell ⟨gl, κ, none⟩ (.int .u8 v)).cell? ⟨w.heap.size, 5, none⟩ = some (.int .u8 r.e) := FB.out.cell 5
  have z5 := FB.out.frozen 5
  have m0 : (w2.setCell ⟨gl, κ, none⟩ (.int .u8 v)).cell? ⟨w.heap.size, 0, none⟩ = some (.int .u8 r.a) := FB.out.cell 0
  have z0 := FB.out.frozen 0
  have m19 : (w2.setCell ⟨gl, κ, none⟩ (.int .u8 v)).cell? ⟨w.heap.size, 19, none⟩ = some (.int .u16 r.ix) := FB.out.cell 19
  have z19 := FB.out.frozen 19
  go_wp2_with fail
  go_quiet (fail)
  obtain ⟨W9, hW9⟩ : ∃ W9, W9 = ((((((w2.setCell ⟨gl, κ, none⟩ (.int .u8 v)).setCell ⟨w.heap.size, 2, none⟩ (.int .u8 X.b)).setCell ⟨w.heap.size, 3, none⟩ (.int .u8 X.c)).setCell ⟨w.heap.size, 4, none⟩ (.int .u8 X.d)).setCell ⟨w.heap.size, 5, none⟩ (.int .u8 X.e)).setCell ⟨w.heap.size, 0, none⟩ (.int .u8 X.a)).drewN nq := ⟨_, rfl⟩
  rw [← hW9]
  have FB9 : Hid (Blk W9 w.heap.size 24 (((((r.cells.set 2 (.int .u8 X.b)).set 3 (.int .u8 X.c)).set 4 (.int .u8 X.d)).set 5 (.int .u8 X.e)).set 0 (.int .u8 X.a))) := by
    show Blk _ _ _ _
    rw [hW9]
    exact (((((FB.out.set_ 2 _).set_ 3 _).set_ 4 _).set_ 5 _).set_ 0 _).drewN _
  have ZB9 : Hid (Blk W9 (w.heap.size + 1) 24 ZL) := by
    show Blk _ _ _ _
    rw [hW9]
    exact (((((ZB.out.far (by simp) _).far (by simp) _).far (by simp) _).far (by simp) _).far (by simp) _).drewN _
  have LB9 : Hid (Blk W9 gl 5 [.int .u8 X.b, .int .u8 X.c, .int .u8 X.d, .int .u8 X.e, .int .u8 p, .int .u8 q, .int .u8 0, .int .u8 X.a]) := by
    show Blk _ _ _ _
    rw [hW9]
    exact (((((LB.out.far hne _).far hne _).far hne _).far hne _).far hne _).drewN _
  have E9 : Hid (Below w.heap.size w W9) := by
    show Below _ _ _
    rw [hW9]
    exact Below_drewN (((((E3.out.setCell (Nat.le_refl _) _).setCell (Nat.le_refl _) _).setCell (Nat.le_refl _) _).setCell (Nat.le_refl _) _).setCell (Nat.le_refl _) _) _
  clear hW9 q0 q1 q2 q3 q4 q5 q7 m2 z2 m3 z3 m4 z4 m5 z5 m0 z0 m19 z19 hc hfz
  have m19 : W9.cell? ⟨w.heap.size, 19, none⟩ = some (.int .u16 r.ix) := FB9.out.cell 19
  have z19 := FB9.out.frozen 19
  have F10 : (W9.setCell ⟨w.heap.size, 19, none⟩ (.int .u16 (256 * p + q))).heap[w.heap.size]? = some (.cells CX 24 (0, 0)) := Blk.arr (FB9.out.set_ 19 _) (by rw [HCP.out]; exact HCX.out)
  have Z10 : (W9.setCell ⟨w.heap.size, 19, none⟩ (.int .u16 (256 * p + q))).heap[w.heap.size + 1]? = some (.cells ZL.toArray 24 (0, 0)) := Blk.arr (ZB9.out.far (by simp) _) rfl
  have E10 : Hid (Below w.heap.size w (W9.setCell ⟨w.heap.size, 19, none⟩ (.int .u16 (256 * p + q)))) := (E9.out.setCell (Nat.le_refl _) _)
  go_wp2_with (first
    | (refine wpList_load_row rfl 24 (.tmp 4) rfl w.heap.size rfl 24 CX (0, 0) _ F10 Try.underlying24 rfl HINX.out ?_)
    | (refine wpList_store_rowTo rfl 24 (.tmp 8) (.tmp 64) rfl rfl (w.heap.size + 1) _ rfl rfl 24 _ Z10 HINX.out HZS.out HONX.out ?_))
  exact bodyPost_ret (v := .agg CX) (results_cell_row rfl _ _ (w.heap.size + 1) 24 CX (0, 0) _ rfl (setRow_heap _ _ _ _ _ _ Z10) Try.underlying24 rfl HINX.out) rfl ⟨rfl, below_setRow E10.out (by omega) _⟩
set_option maxRecDepth 100000 in
set_option maxHeartbeats 8000000 in
theorem put_two (r : Rg) (hr : r.Ok) (C : Array Value) (hC : C = r.cells.toArray) (κ : Nat) (v : Int) (w : World) (hv : B8 v) (h : 0 ≤ (κ : Int) ∧ (κ : Int) ≤ 7 ∧ (κ : Int) ≠ 6) (X : Rg) (hX : X = r.putByte κ 2 v) (CX : Array Value) (hCX : CX = X.cells.toArray) :
    Calls Try.prog 28 #[.agg C, .int .i64 κ, .int .i64 2, .int .u8 v] w (RegsBackP CX w) := by
  have hsz : C.size = 30 := by rw [hC]; exact r.size
  have hone : C.all (·.oneCell') = true := by rw [hC]; exact r.one
  have hszX : CX.size = 30 := by rw [hCX]; exact X.size
  have honeX : CX.all (·.oneCell') = true := by rw [hCX]; exact X.one
  have HINF := Lib.hid (info_of hsz); have HINX := Lib.hid (info_of hszX); have HONX := Lib.hid honeX
  obtain ⟨V, hV, f0, f1, BV, sV⟩ := boxed w C #[.int .u8 0, .int .u8 0, .int .u8 0, .int .u8 0, .int .u8 0, .int .u8 0, .int .u8 0, .int .u8 0, .int .u8 0, .int .u8 0, .int .u8 0, .int .u8 0, .int .u8 0, .int .u8 0, .int .u8 0, .int .u8 0, .int .u8 0, .int .u8 0, .int .u8 0, .int .u16 0, .int .u16 0, .int .u16 0, .int .u16 0, .int .u16 0, .bool false, .bool false, .bool false, .bool false, .int .u8 0, .int .u8 0] 24 24
  have HV := Lib.hid hV; have HBV := Lib.hid BV
  have HLI := Lib.hid (fun u => list_any r hr C hC 2 u)
  have f0b : Blk V w.heap.size 24 r.cells := by
    have h := f0
    rw [hC] at h
    exact h
  obtain ⟨ZL, hZL⟩ : ∃ ZL : List Value, ZL = #[.int .u8 0, .int .u8 0, .int .u8 0, .int .u8 0, .int .u8 0, .int .u8 0, .int .u8 0, .int .u8 0, .int .u8 0, .int .u8 0, .int .u8 0, .int .u8 0, .int .u8 0, .int .u8 0, .int .u8 0, .int .u8 0, .int .u8 0, .int .u8 0, .int .u8 0, .int .u16 0, .int .u16 0, .int .u16 0, .int .u16 0, .int .u16 0, .bool false, .bool false, .bool false, .bool false, .int .u8 0, .int .u8 0].toList := ⟨_, rfl⟩
  have f1b : Blk V (w.heap.size + 1) 24 ZL := by rw [hZL]; exact f1
  have zsz : ZL.toArray.size = CX.size := by rw [hszX, hZL]; rfl
  have F0 := Lib.hid f0b; have F1 := Lib.hid f1b; have HSV := Lib.hid sV; have HZS := Lib.hid zsz
  have HLP := Lib.hid (list_put r hr κ 2 v hv h)
  have HCP := Lib.hid (cells_put2 r hr κ v hv h X hX)
  have bp := X.byte_b8 (by rw [hX]; exact r.put_ok hr κ 2 v hv) 4 2
  have bq := X.byte_b8 (by rw [hX]; exact r.put_ok hr κ 2 v hv) 5 2
  rw [← hX] at HLP
  have HXL : Hid (X.list 2 = [.int .u8 X.b, .int .u8 X.c, .int .u8 X.d, .int .u8 X.e, .int .u8 (X.byte 4 2), .int .u8 (X.byte 5 2), .int .u8 0, .int .u8 X.a]) := rfl
  obtain ⟨p, hp⟩ : ∃ p, p = X.byte 4 2 := ⟨_, rfl⟩
  obtain ⟨q, hq⟩ : ∃ q, q = X.byte 5 2 := ⟨_, rfl⟩
  rw [← hp] at bp HCP HXL
  rw [← hq] at bq HCP HXL
  obtain ⟨p0, p1⟩ := bp
  obtain ⟨qq0, qq1⟩ := bq
  have e2 : IntKind.i64.wrap (256 * p) = 256 * p := by rw [IntKind.wrap_i64]; omega
  have e3 : IntKind.i64.wrap (256 * p + q) = 256 * p + q := by rw [IntKind.wrap_i64]; omega
  have e4 : IntKind.u16.wrap (256 * p + q) = 256 * p + q := by rw [IntKind.wrap_u16]; omega
  have HCX := Lib.hid hCX
  have kb : ((κ : Int) == 6) = false := by simp [h.2.2]
  have k0 : (κ : Int) ≤ 7 := h.2.1
  have kl : κ < (r.list 2).length := by show κ < 8; omega
  have HKL := Lib.hid kl
  clear hV f0 f1 f0b f1b BV sV hone honeX hC hr zsz hp hq hX hCX h hv hZL kl
  go_enter Try.func28, Try.ntmps28
  go_wp2_with (first
    | (refine wpList_load_row rfl 24 (.tmp 4) rfl w.heap.size rfl 24 C (0, 0) _ (heap_alloc2_old w _ _) Try.underlying24 rfl HINF.out ?_; rw [← HV.out]))
  refine (HLI.out _).mono ?_
  rintro e w2 ⟨gl, rfl, bl, hgl, hbl⟩
  have hvs := HSV.out
  have hne : ¬ gl = w.heap.size := (by omega)
  have hne' : ¬ w.heap.size = gl := (by omega)
  have hc := (bl.cell κ).trans (List.getElem?_eq_getElem HKL.out)
  have hfz := bl.frozen κ
  have FB := Lib.hid ((F0.out.below_ hbl).far (p := ⟨gl, κ, none⟩) hne' (.int .u8 v))
  have ZB := Lib.hid ((F1.out.below_ hbl).far (p := ⟨gl, κ, none⟩) (by show w.heap.size + 1 ≠ gl; omega) (.int .u8 v))
  have E3 : Hid (Below w.heap.size w (w2.setCell ⟨gl, κ, none⟩ (.int .u8 v))) := (HBV.out.trans (hbl.mono HBV.out.size)).setCell (by show w.heap.size ≤ gl; omega) _
  have lb := bl.set_ κ (.int .u8 v)
  rw [show (κ : Nat) = (κ : Int).toNat from rfl, HLP.out, HXL.out] at lb
  have LB : Hid (Blk (w2.setCell ⟨gl, κ, none⟩ (.int .u8 v)) gl 5 [.int .u8 X.b, .int .u8 X.c, .int .u8 X.d, .int .u8 X.e, .int .u8 p, .int .u8 q, .int .u8 0, .int .u8 X.a]) := lb
  clear lb hbl hgl bl hvs
  have q0 : (w2.setCell ⟨gl, κ, none⟩ (.int .u8 v)).cell? ⟨gl, 0, none⟩ = some (.int .u8 X.b) := LB.out.cell 0
  have q1 : (w2.setCell ⟨gl, κ, none⟩ (.int .u8 v)).cell? ⟨gl, 1, none⟩ = some (.int .u8 X.c) := LB.out.cell 1
  have q2 : (w2.setCell ⟨gl, κ, none⟩ (.int .u8 v)).cell? ⟨gl, 2, none⟩ = some (.int .u8 X.d) := LB.out.cell 2
  have q3 : (w2.setCell ⟨gl, κ, none⟩ (.int .u8 v)).cell? ⟨gl, 3, none⟩ = some (.int .u8 X.e) := LB.out.cell 3
  have q4 : (w2.setCell ⟨gl, κ, none⟩ (.int .u8 v)).cell? ⟨gl, 4, none⟩ = some (.int .u8 p) := LB.out.cell 4
  have q5 : (w2.setCell ⟨gl, κ, none⟩ (.int .u8 v)).cell? ⟨gl, 5, none⟩ = some (.int .u8 q) := LB.out.cell 5
  have q7 : (w2.setCell ⟨gl, κ, none⟩ (.int .u8 v)).cell? ⟨gl, 7, none⟩ = some (.int .u8 X.a) := LB.out.cell 7
  have m2 : (w2.setCell ⟨gl, κ, none⟩ (.int .u8 v)).cell? ⟨w.heap.size, 2, none⟩ = some (.int .u8 r.b) := FB.out.cell 2
  have z2 := FB.out.frozen 2
  have m3 : (w2.setCell ⟨gl, κ, none⟩ (.int .u8 v)).cell? ⟨w.heap.size, 3, none⟩ = some (.int .u8 r.c) := FB.out.cell 3
  have z3 := FB.out.frozen 3
  have m4 : (w2.setCell ⟨gl, κ, none⟩ (.int .u8 v)).cell? ⟨w.heap.size, 4, none⟩ = some (.int .u8 r.d) := FB.out.cell 4
  have z4 := FB.out.frozen 4
  have m5 : (w2.setCell ⟨gl, κ, none⟩ (.int .u8 v)).cell? ⟨w.heap.size, 5, none⟩ = some (.int .u8 r.e) := FB.out.cell 5
  have z5 := FB.out.frozen 5
  have m0 : (w2.setCell ⟨gl, κ, none⟩ (.int .u8 v)).cell? ⟨w.heap.size, 0, none⟩ = some (.int .u8 r.a) := FB.out.cell 0
  have z0 := FB.out.frozen 0
  have m20 : (w2.setCell ⟨gl, κ, none⟩ (.int .u8 v)).cell? ⟨w.heap.size, 20, none⟩ = some (.int .u16 r.iy) := FB.out.cell 20
  have z20 := FB.out.frozen 20
  go_wp2_with fail
  go_quiet (fail)
  obtain ⟨W9, hW9⟩ : ∃ W9, W9 = ((((((w2.setCell ⟨gl, κ, none⟩ (.int .u8 v)).setCell ⟨w.heap.size, 2, none⟩ (.int .u8 X.b)).setCell ⟨w.heap.size, 3, none⟩ (.int .u8 X.c)).setCell ⟨w.heap.size, 4, none⟩ (.int .u8 X.d)).setCell ⟨w.heap.size, 5, none⟩ (.int .u8 X.e)).setCell ⟨w.heap.size, 0, none⟩ (.int .u8 X.a)).drewN nq := ⟨_, rfl⟩
  rw [← hW9]
  have FB9 : Hid (Blk W9 w.heap.size 24 (((((r.cells.set 2 (.int .u8 X.b)).set 3 (.int .u8 X.c)).set 4 (.int .u8 X.d)).set 5 (.int .u8 X.e)).set 0 (.int .u8 X.a))) := by
    show Blk _ _ _ _
    rw [hW9]
    exact (((((FB.out.set_ 2 _).set_ 3 _).set_ 4 _).set_ 5 _).set_ 0 _).drewN _
  have ZB9 : Hid (Blk W9 (w.heap.size + 1) 24 ZL) := by
    show Blk _ _ _ _
    rw [hW9]
    exact (((((ZB.out.far (by simp) _).far (by simp) _).far (by simp) _).far (by simp) _).far (by simp) _).drewN _
  have LB9 : Hid (Blk W9 gl 5 [.int .u8 X.b, .int .u8 X.c, .int .u8 X.d, .int .u8 X.e, .int .u8 p, .int .u8 q, .int .u8 0, .int .u8 X.a]) := by
    show Blk _ _ _ _
    rw [hW9]
    exact (((((LB.out.far hne _).far hne _).far hne _).far hne _).far hne _).drewN _
  have E9 : Hid (Below w.heap.size w W9) := by
    show Below _ _ _
    rw [hW9]
    exact Below_drewN (((((E3.out.setCell (Nat.le_refl _) _).setCell (Nat.le_refl _) _).setCell (Nat.le_refl _) _).setCell (Nat.le_refl _) _).setCell (Nat.le_refl _) _) _
  clear hW9 q0 q1 q2 q3 q4 q5 q7 m2 z2 m3 z3 m4 z4 m5 z5 m0 z0 m20 z20 hc hfz
  have m20 : W9.cell? ⟨w.heap.size, 20, none⟩ = some (.int .u16 r.iy) := FB9.out.cell 20
  have z20 := FB9.out.frozen 20
  have F10 : (W9.setCell ⟨w.heap.size, 20, none⟩ (.int .u16 (256 * p + q))).heap[w.heap.size]? = some (.cells CX 24 (0, 0)) := Blk.arr (FB9.out.set_ 20 _) (by rw [HCP.out]; exact HCX.out)
  have Z10 : (W9.setCell ⟨w.heap.size, 20, none⟩ (.int .u16 (256 * p + q))).heap[w.heap.size + 1]? = some (.cells ZL.toArray 24 (0, 0)) := Blk.arr (ZB9.out.far (by simp) _) rfl
  have E10 : Hid (Below w.heap.size w (W9.setCell ⟨w.heap.size, 20, none⟩ (.int .u16 (256 * p + q)))) := (E9.out.setCell (Nat.le_refl _) _)
  go_wp2_with (first
    | (refine wpList_load_row rfl 24 (.tmp 4) rfl w.heap.size rfl 24 CX (0, 0) _ F10 Try.underlying24 rfl HINX.out ?_)
    | (refine wpList_store_rowTo rfl 24 (.tmp 8) (.tmp 69) rfl rfl (w.heap.size + 1) _ rfl rfl 24 _ Z10 HINX.out HZS.out HONX.out ?_))
  exact bodyPost_ret (v := .agg CX) (results_cell_row rfl _ _ (w.heap.size + 1) 24 CX (0, 0) _ rfl (setRow_heap _ _ _ _ _ _ Z10) Try.underlying24 rfl HINX.out) rfl ⟨rfl, below_setRow E10.out (by omega) _⟩
set_option maxRecDepth 100000 in
set_option maxHeartbeats 8000000 in
theorem put_plain (r : Rg) (hr : r.Ok) (C : Array Value) (hC : C = r.cells.toArray) (κ : Nat) (ix : Int) (v : Int) (w : World) (hv : B8 v) (h : 0 ≤ (κ : Int) ∧ (κ : Int) ≤ 7 ∧ (κ : Int) ≠ 6) (n1 : ix ≠ 1) (n2 : ix ≠ 2) (X : Rg) (hX : X = r.putByte κ ix v) (CX : Array Value) (hCX : CX = X.cells.toArray) :
    Calls Try.prog 28 #[.agg C, .int .i64 κ, .int .i64 ix, .int .u8 v] w (RegsBackP CX w) := by
  have hsz : C.size = 30 := by rw [hC]; exact r.size
  have hone : C.all (·.oneCell') = true := by rw [hC]; exact r.one
  have hszX : CX.size = 30 := by rw [hCX]; exact X.size
  have honeX : CX.all (·.oneCell') = true := by rw [hCX]; exact X.one
  have HINF := Lib.hid (info_of hsz); have HINX := Lib.hid (info_of hszX); have HONX := Lib.hid honeX
  obtain ⟨V, hV, f0, f1, BV, sV⟩ := boxed w C #[.int .u8 0, .int .u8 0, .int .u8 0, .int .u8 0, .int .u8 0, .int .u8 0, .int .u8 0, .int .u8 0, .int .u8 0, .int .u8 0, .int .u8 0, .int .u8 0, .int .u8 0, .int .u8 0, .int .u8 0, .int .u8 0, .int .u8 0, .int .u8 0, .int .u8 0, .int .u16 0, .int .u16 0, .int .u16 0, .int .u16 0, .int .u16 0, .bool false, .bool false, .bool false, .bool false, .int .u8 0, .int .u8 0] 24 24
  have HV := Lib.hid hV; have HBV := Lib.hid BV
  have HLI := Lib.hid (fun u => list_any r hr C hC ix u)
  have f0b : Blk V w.heap.size 24 r.cells := by
    have h := f0
    rw [hC] at h
    exact h
  obtain ⟨ZL, hZL⟩ : ∃ ZL : List Value, ZL = #[.int .u8 0, .int .u8 0, .int .u8 0, .int .u8 0, .int .u8 0, .int .u8 0, .int .u8 0, .int .u8 0, .int .u8 0, .int .u8 0, .int .u8 0, .int .u8 0, .int .u8 0, .int .u8 0, .int .u8 0, .int .u8 0, .int .u8 0, .int .u8 0, .int .u8 0, .int .u16 0, .int .u16 0, .int .u16 0, .int .u16 0, .int .u16 0, .bool false, .bool false, .bool false, .bool false, .int .u8 0, .int .u8 0].toList := ⟨_, rfl⟩
  have f1b : Blk V (w.heap.size + 1) 24 ZL := by rw [hZL]; exact f1
  have zsz : ZL.toArray.size = CX.size := by rw [hszX, hZL]; rfl
  have F0 := Lib.hid f0b; have F1 := Lib.hid f1b; have HSV := Lib.hid sV; have HZS := Lib.hid zsz
  have HLP := Lib.hid (list_put r hr κ ix v hv h)
  have HCP := Lib.hid (cells_put0 r κ ix v n1 n2 h X hX)
  have bp := X.byte_b8 (by rw [hX]; exact r.put_ok hr κ ix v hv) 4 ix
  have bq := X.byte_b8 (by rw [hX]; exact r.put_ok hr κ ix v hv) 5 ix
  rw [← hX] at HLP
  have HXL : Hid (X.list ix = [.int .u8 X.b, .int .u8 X.c, .int .u8 X.d, .int .u8 X.e, .int .u8 (X.byte 4 ix), .int .u8 (X.byte 5 ix), .int .u8 0, .int .u8 X.a]) := rfl
  obtain ⟨p, hp⟩ : ∃ p, p = X.byte 4 ix := ⟨_, rfl⟩
  obtain ⟨q, hq⟩ : ∃ q, q = X.byte 5 ix := ⟨_, rfl⟩
  rw [← hp] at bp HCP HXL
  rw [← hq] at bq HCP HXL
  obtain ⟨p0, p1⟩ := bp
  obtain ⟨qq0, qq1⟩ := bq
  have e2 : IntKind.i64.wrap (256 * p) = 256 * p := by rw [IntKind.wrap_i64]; omega
  have e3 : IntKind.i64.wrap (256 * p + q) = 256 * p + q := by rw [IntKind.wrap_i64]; omega
  have e4 : IntKind.u16.wrap (256 * p + q) = 256 * p + q := by rw [IntKind.wrap_u16]; omega
  have HCX := Lib.hid hCX
  have kb : ((κ : Int) == 6) = false := by simp [h.2.2]
  have k0 : (κ : Int) ≤ 7 := h.2.1
  have kl : κ < (r.list ix).length := by show κ < 8; omega
  have HKL := Lib.hid kl
  clear hV f0 f1 f0b f1b BV sV hone honeX hC hr zsz hp hq hX hCX h hv hZL kl
  have x1 : (ix == 1) = false := by simp [n1]
  have x2 : (ix == 2) = false := by simp [n2]
  go_enter Try.func28, Try.ntmps28
  go_wp2_with (first
    | (refine wpList_load_row rfl 24 (.tmp 4) rfl w.heap.size rfl 24 C (0, 0) _ (heap_alloc2_old w _ _) Try.underlying24 rfl HINF.out ?_; rw [← HV.out]))
  refine (HLI.out _).mono ?_
  rintro e w2 ⟨gl, rfl, bl, hgl, hbl⟩
  have hvs := HSV.out
  have hne : ¬ gl = w.heap.size := (by omega)
  have hne' : ¬ w.heap.size = gl := (by omega)
  have hc := (bl.cell κ).trans (List.getElem?_eq_getElem HKL.out)
  have hfz := bl.frozen κ
  have FB := Lib.hid ((F0.out.below_ hbl).far (p := ⟨gl, κ, none⟩) hne' (.int .u8 v))
  have ZB := Lib.hid ((F1.out.below_ hbl).far (p := ⟨gl, κ, none⟩) (by show w.heap.size + 1 ≠ gl; omega) (.int .u8 v))
  have E3 : Hid (Below w.heap.size w (w2.setCell ⟨gl, κ, none⟩ (.int .u8 v))) := (HBV.out.trans (hbl.mono HBV.out.size)).setCell (by show w.heap.size ≤ gl; omega) _
  have lb := bl.set_ κ (.int .u8 v)
  rw [show (κ : Nat) = (κ : Int).toNat from rfl, HLP.out, HXL.out] at lb
  have LB : Hid (Blk (w2.setCell ⟨gl, κ, none⟩ (.int .u8 v)) gl 5 [.int .u8 X.b, .int .u8 X.c, .int .u8 X.d, .int .u8 X.e, .int .u8 p, .int .u8 q, .int .u8 0, .int .u8 X.a]) := lb
  clear lb hbl hgl bl hvs
  have q0 : (w2.setCell ⟨gl, κ, none⟩ (.int .u8 v)).cell? ⟨gl, 0, none⟩ = some (.int .u8 X.b) := LB.out.cell 0
  have q1 : (w2.setCell ⟨gl, κ, none⟩ (.int .u8 v)).cell? ⟨gl, 1, none⟩ = some (.int .u8 X.c) := LB.out.cell 1
  have q2 : (w2.setCell ⟨gl, κ, none⟩ (.int .u8 v)).cell? ⟨gl, 2, none⟩ = some (.int .u8 X.d) := LB.out.cell 2
  have q3 : (w2.setCell ⟨gl, κ, none⟩ (.int .u8 v)).cell? ⟨gl, 3, none⟩ = some (.int .u8 X.e) := LB.out.cell 3
  have q4 : (w2.setCell ⟨gl, κ, none⟩ (.int .u8 v)).cell? ⟨gl, 4, none⟩ = some (.int .u8 p) := LB.out.cell 4
  have q5 : (w2.setCell ⟨gl, κ, none⟩ (.int .u8 v)).cell? ⟨gl, 5, none⟩ = some (.int .u8 q) := LB.out.cell 5
  have q7 : (w2.setCell ⟨gl, κ, none⟩ (.int .u8 v)).cell? ⟨gl, 7, none⟩ = some (.int .u8 X.a) := LB.out.cell 7
  have m2 : (w2.setCell ⟨gl, κ, none⟩ (.int .u8 v)).cell? ⟨w.heap.size, 2, none⟩ = some (.int .u8 r.b) := FB.out.cell 2
  have z2 := FB.out.frozen 2
  have m3 : (w2.setCell ⟨gl, κ, none⟩ (.int .u8 v)).cell? ⟨w.heap.size, 3, none⟩ = some (.int .u8 r.c) := FB.out.cell 3
  have z3 := FB.out.frozen 3
  have m4 : (w2.setCell ⟨gl, κ, none⟩ (.int .u8 v)).cell? ⟨w.heap.size, 4, none⟩ = some (.int .u8 r.d) := FB.out.cell 4
  have z4 := FB.out.frozen 4
  have m5 : (w2.setCell ⟨gl, κ, none⟩ (.int .u8 v)).cell? ⟨w.heap.size, 5, none⟩ = some (.int .u8 r.e) := FB.out.cell 5
  have z5 := FB.out.frozen 5
  have m0 : (w2.setCell ⟨gl, κ, none⟩ (.int .u8 v)).cell? ⟨w.heap.size, 0, none⟩ = some (.int .u8 r.a) := FB.out.cell 0
  have z0 := FB.out.frozen 0
  have m6 : (w2.setCell ⟨gl, κ, none⟩ (.int .u8 v)).cell? ⟨w.heap.size, 6, none⟩ = some (.int .u8 r.h) := FB.out.cell 6
  have z6 := FB.out.frozen 6
  have m7 : (w2.setCell ⟨gl, κ, none⟩ (.int .u8 v)).cell? ⟨w.heap.size, 7, none⟩ = some (.int .u8 r.l) := FB.out.cell 7
  have z7 := FB.out.frozen 7
  go_wp2_with fail
  go_quiet (fail)
  obtain ⟨W9, hW9⟩ : ∃ W9, W9 = ((((((w2.setCell ⟨gl, κ, none⟩ (.int .u8 v)).setCell ⟨w.heap.size, 2, none⟩ (.int .u8 X.b)).setCell ⟨w.heap.size, 3, none⟩ (.int .u8 X.c)).setCell ⟨w.heap.size, 4, none⟩ (.int .u8 X.d)).setCell ⟨w.heap.size, 5, none⟩ (.int .u8 X.e)).setCell ⟨w.heap.size, 0, none⟩ (.int .u8 X.a)).drewN nq := ⟨_, rfl⟩
  rw [← hW9]
  have FB9 : Hid (Blk W9 w.heap.size 24 (((((r.cells.set 2 (.int .u8 X.b)).set 3 (.int .u8 X.c)).set 4 (.int .u8 X.d)).set 5 (.int .u8 X.e)).set 0 (.int .u8 X.a))) := by
    show Blk _ _ _ _
    rw [hW9]
    exact (((((FB.out.set_ 2 _).set_ 3 _).set_ 4 _).set_ 5 _).set_ 0 _).drewN _
  have ZB9 : Hid (Blk W9 (w.heap.size + 1) 24 ZL) := by
    show Blk _ _ _ _
    rw [hW9]
    exact (((((ZB.out.far (by simp) _).far (by simp) _).far (by simp) _).far (by simp) _).far (by simp) _).drewN _
  have LB9 : Hid (Blk W9 gl 5 [.int .u8 X.b, .int .u8 X.c, .int .u8 X.d, .int .u8 X.e, .int .u8 p, .int .u8 q, .int .u8 0, .int .u8 X.a]) := by
    show Blk _ _ _ _
    rw [hW9]
    exact (((((LB.out.far hne _).far hne _).far hne _).far hne _).far hne _).drewN _
  have E9 : Hid (Below w.heap.size w W9) := by
    show Below _ _ _
    rw [hW9]
    exact Below_drewN (((((E3.out.setCell (Nat.le_refl _) _).setCell (Nat.le_refl _) _).setCell (Nat.le_refl _) _).setCell (Nat.le_refl _) _).setCell (Nat.le_refl _) _) _
  clear hW9 q0 q1 q2 q3 q4 q5 q7 m2 z2 m3 z3 m4 z4 m5 z5 m0 z0 m6 z6 m7 z7 hc hfz
  have m6 : W9.cell? ⟨w.heap.size, 6, none⟩ = some (.int .u8 r.h) := FB9.out.cell 6
  have z6 := FB9.out.frozen 6
  have m7 : W9.cell? ⟨w.heap.size, 7, none⟩ = some (.int .u8 r.l) := FB9.out.cell 7
  have z7 := FB9.out.frozen 7
  have q4 : W9.cell? ⟨gl, 4, none⟩ = some (.int .u8 p) := LB9.out.cell 4
  have q5 : W9.cell? ⟨gl, 5, none⟩ = some (.int .u8 q) := LB9.out.cell 5
  have F10 : ((W9.setCell ⟨w.heap.size, 6, none⟩ (.int .u8 p)).setCell ⟨w.heap.size, 7, none⟩ (.int .u8 q)).heap[w.heap.size]? = some (.cells CX 24 (0, 0)) := Blk.arr ((FB9.out.set_ 6 _).set_ 7 _) (by rw [HCP.out]; exact HCX.out)
  have Z10 : ((W9.setCell ⟨w.heap.size, 6, none⟩ (.int .u8 p)).setCell ⟨w.heap.size, 7, none⟩ (.int .u8 q)).heap[w.heap.size + 1]? = some (.cells ZL.toArray 24 (0, 0)) := Blk.arr ((ZB9.out.far (by simp) _).far (by simp) _) rfl
  have E10 : Hid (Below w.heap.size w ((W9.setCell ⟨w.heap.size, 6, none⟩ (.int .u8 p)).setCell ⟨w.heap.size, 7, none⟩ (.int .u8 q))) := ((E9.out.setCell (Nat.le_refl _) _).setCell (Nat.le_refl _) _)
  go_wp2_with (first
    | (refine wpList_load_row rfl 24 (.tmp 4) rfl w.heap.size rfl 24 CX (0, 0) _ F10 Try.underlying24 rfl HINX.out ?_)
    | (refine wpList_store_rowTo rfl 24 (.tmp 8) (.tmp 78) rfl rfl (w.heap.size + 1) _ rfl rfl 24 _ Z10 HINX.out HZS.out HONX.out ?_))
  exact bodyPost_ret (v := .agg CX) (results_cell_row rfl _ _ (w.heap.size + 1) 24 CX (0, 0) _ rfl (setRow_heap _ _ _ _ _ _ Z10) Try.underlying24 rfl HINX.out) rfl ⟨rfl, below_setRow E10.out (by omega) _⟩
end Go.Proofs.Ytfhegloobldokaa
