/- The law RegsPairs: its own body: the walk. -/
import Derived.Test.YtfhegloobldokaaRegZ
import Derived.Deep.RegionHeld3
namespace Go.Proofs.Ytfhegloobldokaa
set_option linter.unusedSimpArgs false
set_option linter.unusedVariables false
open Go.RowKit
set_option maxRecDepth 100000 in
set_option maxHeartbeats 20000000 in
theorem regsPairs_any (r : Rg) (k ix v : Int) (w : World) (hr : r.Ok) (hv : B16 v) :
    Calls Try.prog 4 #[.agg r.cells.toArray, .agg #[.int .i64 k, .int .i64 ix], .int .u16 v] w (Yes w) := by
  have hsz := r.size
  have hone := r.one
  obtain ⟨C, hC⟩ : ∃ C : Array Value, C = r.cells.toArray := ⟨_, rfl⟩
  rw [← hC] at hsz hone ⊢
  have HC := Lib.hid hC
  have HONE := Lib.hid hone
  have HINF := Lib.hid (info_of hsz)
  have HL := Lib.hid lives06
  clear hC hone
  obtain ⟨w1, hw1, f0, f1, hB1, hs1⟩ := boxed w C #[.int .i64 k, .int .i64 ix] 24 34
  have HW1 := Lib.hid hw1; have F0 := Lib.hid f0; have F1 := Lib.hid f1; have HB1 := Lib.hid hB1; have HS1 := Lib.hid hs1
  clear hw1 f0 f1 hB1 hs1
  obtain ⟨wz, w2, hwz, hw2, t3⟩ := three_new w1 #[.int .u8 0, .int .u8 0, .int .u8 0, .int .u8 0, .int .u8 0, .int .u8 0, .int .u8 0, .int .u8 0, .int .u8 0, .int .u8 0, .int .u8 0, .int .u8 0, .int .u8 0, .int .u8 0, .int .u8 0, .int .u8 0, .int .u8 0, .int .u8 0, .int .u8 0, .int .u16 0, .int .u16 0, .int .u16 0, .int .u16 0, .int .u16 0, .bool false, .bool false, .bool false, .bool false, .int .u8 0, .int .u8 0] C 24
  have HWZ := Lib.hid hwz; have HW2 := Lib.hid hw2; have H3 := Lib.hid t3
  have hc := HC.out
  have BR2 : Hid (Blk w2 w.heap.size 24 r.cells) := by
    have h := (t3.below.block w.heap.size (by have := HS1.out; omega)).trans F0.out
    rw [hc] at h
    exact h
  have BN2 : Hid (Blk w2 (w.heap.size + 1) 34 [.int .i64 k, .int .i64 ix]) := (t3.below.block (w.heap.size + 1) (by have := HS1.out; omega)).trans F1.out
  have BX2 : Hid (Blk w2 w1.heap.size 24 r.cells) := by have h := t3.f0; rw [hc] at h; exact h
  have BY2 : Hid (Blk w2 (w1.heap.size + 1) 24 r.cells) := by have h := t3.f1; rw [hc] at h; exact h
  have BZ2 : Hid (Blk w2 (w1.heap.size + 1 + 1) 24 r.cells) := by have h := t3.f2; rw [hc] at h; exact h
  have HB2 := Lib.hid (HB1.out.trans (t3.below.mono (by have := HS1.out; omega)))
  have n0 : w2.cell? ⟨w.heap.size + 1, 0, none⟩ = some (.int .i64 k) := BN2.out.cell 0
  have n1 : w2.cell? ⟨w.heap.size + 1, 1, none⟩ = some (.int .i64 ix) := BN2.out.cell 1
  have HS2 := Lib.hid t3.size
  have hzs : (#[.int .u8 0, .int .u8 0, .int .u8 0, .int .u8 0, .int .u8 0, .int .u8 0, .int .u8 0, .int .u8 0, .int .u8 0, .int .u8 0, .int .u8 0, .int .u8 0, .int .u8 0, .int .u8 0, .int .u8 0, .int .u8 0, .int .u8 0, .int .u8 0, .int .u8 0, .int .u16 0, .int .u16 0, .int .u16 0, .int .u16 0, .int .u16 0, .bool false, .bool false, .bool false, .bool false, .int .u8 0, .int .u8 0] : Array Value).size = C.size := by rw [hsz]; rfl
  have HZS := Lib.hid hzs
  clear hwz hw2 t3 hc hzs
  have HROK := Lib.hid hr; have HV := Lib.hid hv
  obtain ⟨v0, v1⟩ := hv
  go_enter Try.func4, Try.ntmps4
  go_wp2_with (first
    | (refine wpList_load_row rfl 24 (.tmp 3) rfl w.heap.size rfl 24 C (0, 0) _ (heap_alloc2_old w _ _) Try.underlying24 rfl HINF.out ?_; rw [← HW1.out])
    | (refine wpList_load_row rfl 24 (.tmp 3) rfl w.heap.size rfl 24 C (0, 0) _ F0.out Try.underlying24 rfl HINF.out ?_)
    | (rw [← HWZ.out]; refine wpList_store_rowTo rfl 24 (.tmp 7) (.tmp 10) rfl rfl w1.heap.size _ rfl rfl 24 _ H3.out.g0 HINF.out HZS.out HONE.out ?_)
    | (refine wpList_store_rowTo rfl 24 (.tmp 8) (.tmp 11) rfl rfl (w1.heap.size + 1) _ rfl rfl 24 _ H3.out.g1 HINF.out HZS.out HONE.out ?_)
    | (refine wpList_store_rowTo rfl 24 (.tmp 9) (.tmp 12) rfl rfl (w1.heap.size + 1 + 1) _ rfl rfl 24 _ H3.out.g2 HINF.out HZS.out HONE.out ?_; rw [← HW2.out]))
  refine (putPair_any r _ w1.heap.size k ix v w2 BX2.out HV.out).mono ?_
  rintro e w3 ⟨rfl, hx, ho⟩
  have BX3 := Lib.hid hx; have HO3 := Lib.hid ho; clear hx ho
  obtain ⟨X, hX⟩ : ∃ X, X = r.putPair k ix v := ⟨_, rfl⟩
  rw [← hX] at BX3
  have HXE := Lib.hid hX
  clear hX
  have BR3 := Lib.hid (HO3.out.blk (show w.heap.size ≠ w1.heap.size by have := HS1.out; omega) BR2.out)
  have BN3 := Lib.hid (HO3.out.blk (show w.heap.size + 1 ≠ w1.heap.size by have := HS1.out; omega) BN2.out)
  have BY3 := Lib.hid (HO3.out.blk (show w1.heap.size + 1 ≠ w1.heap.size by omega) BY2.out)
  have BZ3 := Lib.hid (HO3.out.blk (show w1.heap.size + 1 + 1 ≠ w1.heap.size by omega) BZ2.out)
  have HB3 := Lib.hid (HB2.out.trans (HO3.out.below (by have := HS1.out; omega)))
  clear n0 n1
  go_wp2_with fail
  refine (putAf_any r _ (w1.heap.size + 1) v w3 BY3.out HV.out).mono ?_
  rintro e w4 ⟨rfl, hx, ho⟩
  have BY4 := Lib.hid hx; have HO4 := Lib.hid ho; clear hx ho
  obtain ⟨Y, hY⟩ : ∃ Y, Y = { r with a := v / 256, f := v % 256 } := ⟨_, rfl⟩
  rw [← hY] at BY4
  have HYE := Lib.hid hY
  clear hY
  have BR4 := Lib.hid (HO4.out.blk (show w.heap.size ≠ w1.heap.size + 1 by have := HS1.out; omega) BR3.out)
  have BN4 := Lib.hid (HO4.out.blk (show w.heap.size + 1 ≠ w1.heap.size + 1 by have := HS1.out; omega) BN3.out)
  have BX4 := Lib.hid (HO4.out.blk (show w1.heap.size ≠ w1.heap.size + 1 by omega) BX3.out)
  have BZ4 := Lib.hid (HO4.out.blk (show w1.heap.size + 1 + 1 ≠ w1.heap.size + 1 by omega) BZ3.out)
  have HB4 := Lib.hid (HB3.out.trans (HO4.out.below (by have := HS1.out; omega)))
  have z0 : w4.cell? ⟨w1.heap.size + 1 + 1, 0, none⟩ = some (.int .u8 r.a) := BZ4.out.cell 0
  have z1 : w4.cell? ⟨w1.heap.size + 1 + 1, 1, none⟩ = some (.int .u8 r.f) := BZ4.out.cell 1
  have y0 := BZ4.out.frozen 0
  have y1 := BZ4.out.frozen 1
  obtain ⟨w5, hw5⟩ : ∃ w5, w5 = (w4.setCell ⟨w1.heap.size + 1 + 1, 0, none⟩ (.int .u8 (v / 256))).setCell ⟨w1.heap.size + 1 + 1, 1, none⟩ (.int .u8 (v % 256)) := ⟨_, rfl⟩
  have ho5 : Only (w1.heap.size + 1 + 1) w4 w5 := by rw [hw5]; exact (Only.set _ _ _ _).trans (Only.set _ _ _ _)
  have bz5 : Blk w5 (w1.heap.size + 1 + 1) 24 Y.cells := by
    have h := ((BZ4.out.set_ 0 (.int .u8 (v / 256))).set_ 1 (.int .u8 (v % 256)))
    rw [← hw5] at h
    rw [HYE.out]
    exact h
  have BZ5 := Lib.hid bz5
  have HW5 := Lib.hid hw5
  have BR5 := Lib.hid (ho5.blk (show w.heap.size ≠ w1.heap.size + 1 + 1 by have := HS1.out; omega) BR4.out)
  have BN5 := Lib.hid (ho5.blk (show w.heap.size + 1 ≠ w1.heap.size + 1 + 1 by have := HS1.out; omega) BN4.out)
  have BX5 := Lib.hid (ho5.blk (show w1.heap.size ≠ w1.heap.size + 1 + 1 by omega) BX4.out)
  have BY5 := Lib.hid (ho5.blk (show w1.heap.size + 1 ≠ w1.heap.size + 1 + 1 by omega) BY4.out)
  have HB5 := Lib.hid (HB4.out.trans (ho5.below (by have := HS1.out; omega)))
  clear hw5 ho5 bz5
  have q0 : IntKind.i64.wrap v = v := by rw [IntKind.wrap_i64]; omega
  have q1 : IntKind.u8.wrap (v / 256) = v / 256 := by rw [IntKind.wrap_u8]; omega
  have q2 : IntKind.u8.wrap (v % 256) = v % 256 := by rw [IntKind.wrap_u8]; omega
  go_wp2_with fail
  try rw [← HW5.out]
  clear z0 z1 y0 y1 q0 q1 q2
  obtain ⟨CX, hCX⟩ : ∃ D : Array Value, D = X.cells.toArray := ⟨_, rfl⟩
  obtain ⟨CY, hCY⟩ : ∃ D : Array Value, D = Y.cells.toArray := ⟨_, rfl⟩
  have HCX := Lib.hid hCX; have HCY := Lib.hid hCY
  have szX : CX.size = 30 := by rw [hCX]; exact X.size
  have szY : CY.size = 30 := by rw [hCY]; exact Y.size
  have hEQ : ∀ u : World, (binOp .eql 24 (.agg CX) (.agg CX)).run Try.prog u = .ok (.bool true) u := fun u => by
    rw [HCX.out]
    exact eq_regs X u
  have hEY : ∀ u : World, (binOp .eql 24 (.agg CY) (.agg CY)).run Try.prog u = .ok (.bool true) u := fun u => by
    rw [HCY.out]
    exact eq_regs Y u
  clear hCX hCY
  have HPP : Hid (∀ u, Calls Try.prog 23 #[.agg C, .int .i64 k, .int .i64 ix, .int .u16 v] u (RegsBackP CX u)) := fun u =>
    ppair_any r HROK.out C HC.out k ix v u HV.out CX (by rw [HCX.out, HXE.out])
  obtain ⟨PR, hPR⟩ : ∃ p, p = r.pair k ix := ⟨_, rfl⟩
  have HP1 : Hid (∀ u, Blk u w.heap.size 24 r.cells → Calls Try.prog 21 #[.pointer (some ⟨w.heap.size, 0, none⟩), .int .i64 k, .int .i64 ix] u fun e u' => e = .returned (.int .u16 PR) ∧ Below u.heap.size u u') := fun u h => by
    rw [hPR]
    exact (pair_any r _ w.heap.size k ix u h HROK.out).mono fun e u' ⟨h1, h2⟩ => ⟨h1, h2.below⟩
  have HP2 : Hid (∀ u, Calls Try.prog 22 #[.agg C, .int .i64 k, .int .i64 ix] u fun e u' => e = .returned (.int .u16 PR) ∧ Below u.heap.size u u') := fun u => by
    rw [hPR]
    exact refPair_any r HROK.out C HC.out k ix u
  clear hPR
  have ka := HROK.out.a
  have kf := HROK.out.f
  have ca : w5.cell? ⟨w.heap.size, 0, none⟩ = some (.int .u8 r.a) := BR5.out.cell 0
  have cf : w5.cell? ⟨w.heap.size, 1, none⟩ = some (.int .u8 r.f) := BR5.out.cell 1
  have HAF : Hid (∀ u, Blk u w.heap.size 24 r.cells → Calls Try.prog 24 #[.pointer (some ⟨w.heap.size, 0, none⟩)] u fun e u' => e = .returned (.int .u16 (r.a * 256 + r.f)) ∧ Below u.heap.size u u') := fun u h =>
    (af_any r _ w.heap.size u h HROK.out).mono fun e u' ⟨h1, h2⟩ => ⟨h1, h2.below⟩
  obtain ⟨ra, hra⟩ : ∃ x, x = r.a := ⟨_, rfl⟩
  obtain ⟨rf, hrf⟩ : ∃ x, x = r.f := ⟨_, rfl⟩
  rw [← hra] at ka ca HAF
  rw [← hrf] at kf cf HAF
  clear hra hrf
  obtain ⟨ka0, ka1⟩ := ka
  obtain ⟨kf0, kf1⟩ := kf
  have e1 : IntKind.i64.wrap (ra * 256 + rf) = ra * 256 + rf := by rw [IntKind.wrap_i64]; omega
  have e2 : IntKind.i64.wrap (256 * ra) = 256 * ra := by rw [IntKind.wrap_i64]; omega
  have e3 : IntKind.i64.wrap (256 * ra + rf) = 256 * ra + rf := by rw [IntKind.wrap_i64]; omega
  have e4 : IntKind.i64.wrap ra = ra := by rw [IntKind.wrap_i64]; omega
  have e5 : IntKind.i64.wrap rf = rf := by rw [IntKind.wrap_i64]; omega
  have e6 : (ra * 256 + rf == 256 * ra + rf) = true := by simp; omega
  have m0 : w5.cell? ⟨w.heap.size + 1, 0, none⟩ = some (.int .i64 k) := BN5.out.cell 0
  have m1 : w5.cell? ⟨w.heap.size + 1, 1, none⟩ = some (.int .i64 ix) := BN5.out.cell 1
  have FR : w5.heap[w.heap.size]? = some (.cells C 24 (0, 0)) := Blk.arr BR5.out HC.out
  have FX : w5.heap[w1.heap.size]? = some (.cells CX 24 (0, 0)) := Blk.arr BX5.out HCX.out
  have FY : w5.heap[w1.heap.size + 1]? = some (.cells CY 24 (0, 0)) := Blk.arr BY5.out HCY.out
  have FZ : w5.heap[w1.heap.size + 1 + 1]? = some (.cells CY 24 (0, 0)) := Blk.arr BZ5.out HCY.out
  obtain ⟨LD, hl⟩ := some_LD
  have HLD := Lib.hid hl
  have h9 : Held4 LD w5 (w.heap.size + 1) w.heap.size w1.heap.size (w1.heap.size + 1) (w1.heap.size + 1 + 1) C CX CY k ix ra rf w5 := ⟨Below.refl _ _, ⟨m0, m1⟩, ⟨ca, cf⟩, ⟨FR, FX, FY, FZ⟩, LD_of hl hsz FR, LD_of hl szX FX, LD_of hl szY FY, LD_of hl szY FZ⟩
  clear FR FX FY FZ hl ca cf m0 m1
  have hN3 : ∀ u : World, (loadVar 24 ⟨w.heap.size, 0, none⟩).run Try.prog u = LD w.heap.size u := fun u => HLD.out _ u
  have hN7 : ∀ u : World, (loadVar 24 ⟨w1.heap.size, 0, none⟩).run Try.prog u = LD w1.heap.size u := fun u => HLD.out _ u
  have hN8 : ∀ u : World, (loadVar 24 ⟨w1.heap.size + 1, 0, none⟩).run Try.prog u = LD (w1.heap.size + 1) u := fun u => HLD.out _ u
  have hN9 : ∀ u : World, (loadVar 24 ⟨w1.heap.size + 1 + 1, 0, none⟩).run Try.prog u = LD (w1.heap.size + 1 + 1) u := fun u => HLD.out _ u
  simp [go_sem, loadVar] at hN3 hN7 hN8 hN9
  have HBL : Hid (∀ u : World, Held4 LD w5 (w.heap.size + 1) w.heap.size w1.heap.size (w1.heap.size + 1) (w1.heap.size + 1 + 1) C CX CY k ix ra rf u → Blk u w.heap.size 24 r.cells) := fun u ⟨_, _, _, ⟨h, _⟩, _⟩ => by
    rw [HC.out] at h
    exact h
  unfold Held4 at h9
  go_region_held3 (fun w' => Below w5.heap.size w5 w' ∧ (w'.cell? ⟨(w.heap.size + 1), 0, none⟩ = some (.int .i64 k) ∧ w'.cell? ⟨(w.heap.size + 1), 1, none⟩ = some (.int .i64 ix)) ∧ (w'.cell? ⟨w.heap.size, 0, none⟩ = some (.int .u8 ra) ∧ w'.cell? ⟨w.heap.size, 1, none⟩ = some (.int .u8 rf)) ∧ (w'.heap[w.heap.size]? = some (.cells C 24 (0, 0)) ∧ w'.heap[w1.heap.size]? = some (.cells CX 24 (0, 0)) ∧ w'.heap[(w1.heap.size + 1)]? = some (.cells CY 24 (0, 0)) ∧ w'.heap[(w1.heap.size + 1 + 1)]? = some (.cells CY 24 (0, 0))) ∧ LD w.heap.size w' = .ok (.agg C) w' ∧ LD w1.heap.size w' = .ok (.agg CX) w' ∧ LD (w1.heap.size + 1) w' = .ok (.agg CY) w' ∧ LD (w1.heap.size + 1 + 1) w' = .ok (.agg CY) w') (first | assumption | (refine Held4.drew HLD.out hsz szX szY ?_; assumption) | exact Held4.below HLD.out hsz szX szY ‹Below _ _ _› ‹_›)
    (first
      | (go_at_call 21; refine (HP1.out _ (HBL.out _ (by assumption))).mono ?_; rintro e w6 ⟨rfl, hb6⟩)
      | (go_at_call 22; refine (HP2.out _).mono ?_; rintro e w7 ⟨rfl, hb7⟩)
      | (go_at_call 23; refine (HPP.out _).mono ?_; rintro e w8 ⟨rfl, hb8⟩)
      | (go_at_call 24; refine (HAF.out _ (HBL.out _ (by assumption))).mono ?_; rintro e w9 ⟨rfl, hb9⟩)
      | (go_at_call 18; refine (HL.out _).mono ?_; rintro e w10 ⟨rfl, hb10⟩))
  all_goals
    rename_i hS9
    have hB9 := hS9.1
    clear hS9
    go_wp2_with fail
    go_ret
    exact ⟨rfl, HB5.out.trans (hB9.mono HB5.out.size)⟩
end Go.Proofs.Ytfhegloobldokaa
