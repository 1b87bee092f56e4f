/- squealref06: Pair. -/
import Derived.Test.YtfhegloobldokaaRegQ
namespace Go.Proofs.Ytfhegloobldokaa
set_option linter.unusedSimpArgs false
set_option linter.unusedVariables false
open Go.RowKit
theorem pair_bytes (r : Rg) (hr : r.Ok) (k ix : Int) (h : k = 0 ∨ k = 1 ∨ k = 2) : r.pair k ix = 256 * r.byte (2 * k) ix + r.byte (2 * k + 1) ix := by
  have hx := hr.ix
  have hy := hr.iy
  obtain ⟨x0, x1⟩ := hx
  obtain ⟨y0, y1⟩ := hy
  rcases h with rfl | rfl | rfl <;> rcases ix_cases ix with rfl | rfl | ⟨n1, n2⟩
  all_goals (simp [Rg.pair, Rg.byte, *]; try omega)
set_option maxHeartbeats 4000000 in
theorem refPair_0 (r : Rg) (hr : r.Ok) (C : Array Value) (hC : C = r.cells.toArray) (ix : Int) (w : World) :
    Calls Try.prog 22 #[.agg C, .int .i64 0, .int .i64 ix] w fun e w' => e = .returned (.int .u16 (r.pair 0 ix)) ∧ Below w.heap.size w w' := by
  have hsz : C.size = 30 := by rw [hC]; exact r.size
  have HINF := Lib.hid (info_of hsz)
  have HLI := Lib.hid (fun u => list_any r hr C hC ix u)
  have hp := r.byte_b8 hr (2 * 0) ix
  have hq := r.byte_b8 hr (2 * 0 + 1) ix
  have HL : Hid (r.list ix = [.int .u8 (r.byte 0 ix), .int .u8 (r.byte 1 ix), .int .u8 (r.byte 2 ix), .int .u8 (r.byte 3 ix), .int .u8 (r.byte 4 ix), .int .u8 (r.byte 5 ix), .int .u8 0, .int .u8 r.a]) := by
    show _ = _
    simp [Rg.list, Rg.byte]
  have HP := Lib.hid (pair_bytes r hr 0 ix (by omega))
  obtain ⟨p, hp2⟩ : ∃ p, p = r.byte (2 * 0) ix := ⟨_, rfl⟩
  obtain ⟨q, hq2⟩ : ∃ q, q = r.byte (2 * 0 + 1) ix := ⟨_, rfl⟩
  rw [← hp2] at hp HP
  rw [← hq2] at hq HP
  have P2 := Lib.hid hp2; have Q2 := Lib.hid hq2
  obtain ⟨p0, p1⟩ := hp
  obtain ⟨q0, q1⟩ := hq
  have e2 : IntKind.i64.wrap (256 * p) = 256 * p := by rw [IntKind.wrap_i64]; omega
  have e3 : IntKind.i64.wrap (256 * p + q) = 256 * p + q := by rw [IntKind.wrap_i64]; omega
  have e4 : IntKind.u16.wrap (256 * p + q) = 256 * p + q := by rw [IntKind.wrap_u16]; omega
  have HB0 : Hid (Below w.heap.size w (w.alloc (.cells C 24))) := (Below.refl _ _).alloc (Nat.le_refl _) _
  clear hp2 hq2 hC hr
  go_enter Try.func22, Try.ntmps22
  go_wp2_with (first
    | (refine wpList_load_row rfl 24 (.tmp 3) rfl w.heap.size rfl 24 C (0, 0) _ (heap_alloc_new w _) Try.underlying24 rfl HINF.out ?_))
  refine (HLI.out _).mono ?_
  rintro e w2 ⟨gl, rfl, bl, hgl, hbl⟩
  rw [HL.out] at bl
  have c1 : w2.cell? ⟨gl, 0, none⟩ = some (.int .u8 p) := by rw [P2.out]; exact bl.cell 0
  have c2 : w2.cell? ⟨gl, 1, none⟩ = some (.int .u8 q) := by rw [Q2.out]; exact bl.cell 1
  have E2 := Lib.hid (HB0.out.trans (hbl.mono HB0.out.size))
  clear bl hgl hbl
  go_wp2_with fail
  go_quiet (fail)
  go_wp2_with fail
  go_ret
  exact ⟨by rw [HP.out]; rfl, Below_drewN E2.out _⟩
set_option maxHeartbeats 4000000 in
theorem refPair_1 (r : Rg) (hr : r.Ok) (C : Array Value) (hC : C = r.cells.toArray) (ix : Int) (w : World) :
    Calls Try.prog 22 #[.agg C, .int .i64 1, .int .i64 ix] w fun e w' => e = .returned (.int .u16 (r.pair 1 ix)) ∧ Below w.heap.size w w' := by
  have hsz : C.size = 30 := by rw [hC]; exact r.size
  have HINF := Lib.hid (info_of hsz)
  have HLI := Lib.hid (fun u => list_any r hr C hC ix u)
  have hp := r.byte_b8 hr (2 * 1) ix
  have hq := r.byte_b8 hr (2 * 1 + 1) ix
  have HL : Hid (r.list ix = [.int .u8 (r.byte 0 ix), .int .u8 (r.byte 1 ix), .int .u8 (r.byte 2 ix), .int .u8 (r.byte 3 ix), .int .u8 (r.byte 4 ix), .int .u8 (r.byte 5 ix), .int .u8 0, .int .u8 r.a]) := by
    show _ = _
    simp [Rg.list, Rg.byte]
  have HP := Lib.hid (pair_bytes r hr 1 ix (by omega))
  obtain ⟨p, hp2⟩ : ∃ p, p = r.byte (2 * 1) ix := ⟨_, rfl⟩
  obtain ⟨q, hq2⟩ : ∃ q, q = r.byte (2 * 1 + 1) ix := ⟨_, rfl⟩
  rw [← hp2] at hp HP
  rw [← hq2] at hq HP
  have P2 := Lib.hid hp2; have Q2 := Lib.hid hq2
  obtain ⟨p0, p1⟩ := hp
  obtain ⟨q0, q1⟩ := hq
  have e2 : IntKind.i64.wrap (256 * p) = 256 * p := by rw [IntKind.wrap_i64]; omega
  have e3 : IntKind.i64.wrap (256 * p + q) = 256 * p + q := by rw [IntKind.wrap_i64]; omega
  have e4 : IntKind.u16.wrap (256 * p + q) = 256 * p + q := by rw [IntKind.wrap_u16]; omega
  have HB0 : Hid (Below w.heap.size w (w.alloc (.cells C 24))) := (Below.refl _ _).alloc (Nat.le_refl _) _
  clear hp2 hq2 hC hr
  go_enter Try.func22, Try.ntmps22
  go_wp2_with (first
    | (refine wpList_load_row rfl 24 (.tmp 3) rfl w.heap.size rfl 24 C (0, 0) _ (heap_alloc_new w _) Try.underlying24 rfl HINF.out ?_))
  refine (HLI.out _).mono ?_
  rintro e w2 ⟨gl, rfl, bl, hgl, hbl⟩
  rw [HL.out] at bl
  have c1 : w2.cell? ⟨gl, 2, none⟩ = some (.int .u8 p) := by rw [P2.out]; exact bl.cell 2
  have c2 : w2.cell? ⟨gl, 3, none⟩ = some (.int .u8 q) := by rw [Q2.out]; exact bl.cell 3
  have E2 := Lib.hid (HB0.out.trans (hbl.mono HB0.out.size))
  clear bl hgl hbl
  go_wp2_with fail
  go_quiet (fail)
  go_wp2_with fail
  go_ret
  exact ⟨by rw [HP.out]; rfl, Below_drewN E2.out _⟩
set_option maxHeartbeats 4000000 in
theorem refPair_2 (r : Rg) (hr : r.Ok) (C : Array Value) (hC : C = r.cells.toArray) (ix : Int) (w : World) :
    Calls Try.prog 22 #[.agg C, .int .i64 2, .int .i64 ix] w fun e w' => e = .returned (.int .u16 (r.pair 2 ix)) ∧ Below w.heap.size w w' := by
  have hsz : C.size = 30 := by rw [hC]; exact r.size
  have HINF := Lib.hid (info_of hsz)
  have HLI := Lib.hid (fun u => list_any r hr C hC ix u)
  have hp := r.byte_b8 hr (2 * 2) ix
  have hq := r.byte_b8 hr (2 * 2 + 1) ix
  have HL : Hid (r.list ix = [.int .u8 (r.byte 0 ix), .int .u8 (r.byte 1 ix), .int .u8 (r.byte 2 ix), .int .u8 (r.byte 3 ix), .int .u8 (r.byte 4 ix), .int .u8 (r.byte 5 ix), .int .u8 0, .int .u8 r.a]) := by
    show _ = _
    simp [Rg.list, Rg.byte]
  have HP := Lib.hid (pair_bytes r hr 2 ix (by omega))
  obtain ⟨p, hp2⟩ : ∃ p, p = r.byte (2 * 2) ix := ⟨_, rfl⟩
  obtain ⟨q, hq2⟩ : ∃ q, q = r.byte (2 * 2 + 1) ix := ⟨_, rfl⟩
  rw [← hp2] at hp HP
  rw [← hq2] at hq HP
  have P2 := Lib.hid hp2; have Q2 := Lib.hid hq2
  obtain ⟨p0, p1⟩ := hp
  obtain ⟨q0, q1⟩ := hq
  have e2 : IntKind.i64.wrap (256 * p) = 256 * p := by rw [IntKind.wrap_i64]; omega
  have e3 : IntKind.i64.wrap (256 * p + q) = 256 * p + q := by rw [IntKind.wrap_i64]; omega
  have e4 : IntKind.u16.wrap (256 * p + q) = 256 * p + q := by rw [IntKind.wrap_u16]; omega
  have HB0 : Hid (Below w.heap.size w (w.alloc (.cells C 24))) := (Below.refl _ _).alloc (Nat.le_refl _) _
  clear hp2 hq2 hC hr
  go_enter Try.func22, Try.ntmps22
  go_wp2_with (first
    | (refine wpList_load_row rfl 24 (.tmp 3) rfl w.heap.size rfl 24 C (0, 0) _ (heap_alloc_new w _) Try.underlying24 rfl HINF.out ?_))
  refine (HLI.out _).mono ?_
  rintro e w2 ⟨gl, rfl, bl, hgl, hbl⟩
  rw [HL.out] at bl
  have c1 : w2.cell? ⟨gl, 4, none⟩ = some (.int .u8 p) := by rw [P2.out]; exact bl.cell 4
  have c2 : w2.cell? ⟨gl, 5, none⟩ = some (.int .u8 q) := by rw [Q2.out]; exact bl.cell 5
  have E2 := Lib.hid (HB0.out.trans (hbl.mono HB0.out.size))
  clear bl hgl hbl
  go_wp2_with fail
  go_quiet (fail)
  go_wp2_with fail
  go_ret
  exact ⟨by rw [HP.out]; rfl, Below_drewN E2.out _⟩
end Go.Proofs.Ytfhegloobldokaa
