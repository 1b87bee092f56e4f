/- The law RegsShows: its own body: the walk. -/
import Derived.Test.YtfhegloobldokaaRegCC
import Derived.Test.YtfhegloobldokaaRegDD
import Derived.Deep.RegionHeld3
namespace Go.Proofs.Ytfhegloobldokaa
set_option linter.unusedSimpArgs false
set_option linter.unusedVariables false
open Go.RowKit
/-- two copies of registers in new memory: each block laid first, stored behind -/
structure Two (w : World) (Z C : Array Value) (T : TypeId) (w3 w2 : World) : Prop where
  g0 : w3.heap[w.heap.size]? = some (.cells Z T (0, 0))
  g1 : (w3.setRow w.heap.size C).heap[w.heap.size + 1]? = some (.cells Z T (0, 0))
  f0 : w2.heap[w.heap.size]? = some (.cells C T (0, 0))
  f1 : w2.heap[w.heap.size + 1]? = some (.cells C T (0, 0))
  below : Below w.heap.size w w2
  size : w2.heap.size = w.heap.size + 1 + 1
theorem two_new (w : World) (Z C : Array Value) (T : TypeId) : ∃ w3 w2, w3 = (w.alloc (.cells Z T)).alloc (.cells Z T) ∧ w2 = (w3.setRow w.heap.size C).setRow (w.heap.size + 1) C ∧ Two w Z C T w3 w2 := by
  have s1 : (w.alloc (.cells Z T)).heap.size = w.heap.size + 1 := by simp
  have e0 : ((w.alloc (.cells Z T)).alloc (.cells Z T)).heap[w.heap.size]? = some (.cells Z T (0, 0)) := heap_alloc2_old w _ _
  have e1 : ((w.alloc (.cells Z T)).alloc (.cells Z T)).heap[w.heap.size + 1]? = some (.cells Z T (0, 0)) := heap_alloc2_new w _ _
  have b3 : Below w.heap.size w ((w.alloc (.cells Z T)).alloc (.cells Z T)) := ((Below.refl _ w).alloc (Nat.le_refl _) _).alloc (by omega) _
  have s3 : ((w.alloc (.cells Z T)).alloc (.cells Z T)).heap.size = w.heap.size + 1 + 1 := by simp
  refine ⟨_, _, rfl, rfl, ?_⟩
  obtain ⟨u, hu⟩ : ∃ u, u = (w.alloc (.cells Z T)).alloc (.cells Z T) := ⟨_, rfl⟩
  rw [← hu] at e0 e1 b3 s3 ⊢
  exact
    { g0 := e0
      g1 := (setRow_other _ _ _ _ (by omega)).trans e1
      f0 := (setRow_other _ _ _ _ (by omega)).trans (setRow_heap _ _ _ _ _ _ e0)
      f1 := setRow_heap _ _ _ _ _ _ ((setRow_other _ _ _ _ (by omega)).trans e1)
      below := below_setRow (below_setRow b3 (Nat.le_refl _) _) (by omega) _
      size := by rw [size_setRow, size_setRow]; exact s3 }
/-- four blocks of registers, and I and R of the first, in a world that has grown -/
def HeldS (LD : Nat → World → Result Value) (W : World) (gr gb gx gy : Nat) (C CB CX : Array Value) (i r : Int) (w' : World) : Prop :=
  Below W.heap.size W w' ∧ (w'.cell? ⟨gr, 16, none⟩ = some (.int .u8 i) ∧ w'.cell? ⟨gr, 17, none⟩ = some (.int .u8 r)) ∧ (w'.heap[gr]? = some (.cells C 24 (0, 0)) ∧ w'.heap[gb]? = some (.cells CB 24 (0, 0)) ∧ w'.heap[gx]? = some (.cells CX 24 (0, 0)) ∧ w'.heap[gy]? = some (.cells CX 24 (0, 0))) ∧ LD gr w' = .ok (.agg C) w' ∧ LD gb w' = .ok (.agg CB) w' ∧ LD gx w' = .ok (.agg CX) w' ∧ LD gy w' = .ok (.agg CX) w'
theorem HeldS.below {LD : Nat → World → Result Value} (hl : IsLD LD) {W w w' : World} {gr gb gx gy : Nat} {C CB CX : Array Value} {i r : Int} (hs : C.size = 30) (hb' : CB.size = 30) (hx : CX.size = 30) (hb : Below w.heap.size w w') (x : HeldS LD W gr gb gx gy C CB CX i r w) : HeldS LD W gr gb gx gy C CB CX i r w' := by
  have k' : ∀ (a : Addr) (v : Value), w.cell? a = some v → w'.cell? a = some v := fun a v hc => (hb.cell (block_lt_of_cell hc)).trans hc
  obtain ⟨hB, ⟨a0, f0⟩, ⟨h1, h2, h3, h4⟩, _, _, _, _⟩ := x
  exact ⟨hB.trans (hb.mono hB.size), ⟨k' _ _ a0, k' _ _ f0⟩, ⟨row_keep hb h1, row_keep hb h2, row_keep hb h3, row_keep hb h4⟩, LD_of hl hs (row_keep hb h1), LD_of hl hb' (row_keep hb h2), LD_of hl hx (row_keep hb h3), LD_of hl hx (row_keep hb h4)⟩
theorem HeldS.drew {LD : Nat → World → Result Value} (hl : IsLD LD) {W w : World} {gr gb gx gy : Nat} {C CB CX : Array Value} {i r : Int} (hs : C.size = 30) (hb' : CB.size = 30) (hx : CX.size = 30) (x : HeldS LD W gr gb gx gy C CB CX i r w) : HeldS LD W gr gb gx gy C CB CX i r w.drew := HeldS.below hl hs hb' hx (Below.refl _ w).drew x
set_option maxRecDepth 100000 in
set_option maxHeartbeats 20000000 in
theorem regsShows_any (r b : Rg) (w : World) (hr : r.Ok) (hb : b.Ok) :
    Calls Try.prog 3 #[.agg r.cells.toArray, .agg b.cells.toArray] w (Yes w) := by
  have hsz := r.size
  have hone := r.one
  have hszB := b.size
  obtain ⟨E, hE⟩ := eq_any r b
  have hT := eq_regs r
  obtain ⟨C, hC⟩ : ∃ C : Array Value, C = r.cells.toArray := ⟨_, rfl⟩
  obtain ⟨CB, hCB⟩ : ∃ C : Array Value, C = b.cells.toArray := ⟨_, rfl⟩
  rw [← hC] at hsz hone hE hT ⊢
  rw [← hCB] at hszB hE ⊢
  have HC := Lib.hid hC
  have HONE := Lib.hid hone
  have HINF := Lib.hid (info_of hsz)
  have HL := Lib.hid lives06
  have HRS := Lib.hid (fun u => refShow_any r C hC u hr)
  clear hC hone hCB
  obtain ⟨w1, hw1, f0, f1, hB1, hs1⟩ := boxed w C CB 24 24
  have HW1 := Lib.hid hw1; have F0 := Lib.hid f0; have F1 := Lib.hid f1; have HB1 := Lib.hid hB1; have HS1 := Lib.hid hs1
  clear hw1 f0 f1 hB1 hs1
  obtain ⟨wz, w2, hwz, hw2, t3⟩ := two_new w1 #[.int .u8 0, .int .u8 0, .int .u8 0, .int .u8 0, .int .u8 0, .int .u8 0, .int .u8 0, .int .u8 0, .int .u8 0, .int .u8 0, .int .u8 0, .int .u8 0, .int .u8 0, .int .u8 0, .int .u8 0, .int .u8 0, .int .u8 0, .int .u8 0, .int .u8 0, .int .u16 0, .int .u16 0, .int .u16 0, .int .u16 0, .int .u16 0, .bool false, .bool false, .bool false, .bool false, .int .u8 0, .int .u8 0] C 24
  have HWZ := Lib.hid hwz; have HW2 := Lib.hid hw2; have H3 := Lib.hid t3
  have hc := HC.out
  have FR2 := Lib.hid ((t3.below.block w.heap.size (by have := HS1.out; omega)).trans F0.out)
  have FB2 := Lib.hid ((t3.below.block (w.heap.size + 1) (by have := HS1.out; omega)).trans F1.out)
  have BX2 : Hid (Blk w2 w1.heap.size 24 r.cells) := by have h := t3.f0; rw [hc] at h; exact h
  have BY2 : Hid (Blk w2 (w1.heap.size + 1) 24 r.cells) := by have h := t3.f1; rw [hc] at h; exact h
  have HB2 := Lib.hid (HB1.out.trans (t3.below.mono (by have := HS1.out; omega)))
  have HS2 := Lib.hid t3.size
  have hzs : (#[.int .u8 0, .int .u8 0, .int .u8 0, .int .u8 0, .int .u8 0, .int .u8 0, .int .u8 0, .int .u8 0, .int .u8 0, .int .u8 0, .int .u8 0, .int .u8 0, .int .u8 0, .int .u8 0, .int .u8 0, .int .u8 0, .int .u8 0, .int .u8 0, .int .u8 0, .int .u16 0, .int .u16 0, .int .u16 0, .int .u16 0, .int .u16 0, .bool false, .bool false, .bool false, .bool false, .int .u8 0, .int .u8 0] : Array Value).size = C.size := by rw [hsz]; rfl
  have HZS := Lib.hid hzs
  clear hwz hw2 t3 hc hzs
  have HROK := Lib.hid hr
  go_enter Try.func3, Try.ntmps3
  go_wp2_with (first
    | (refine wpList_load_row rfl 24 (.tmp 2) rfl w.heap.size rfl 24 C (0, 0) _ (heap_alloc2_old w _ _) Try.underlying24 rfl HINF.out ?_; rw [← HW1.out])
    | (refine wpList_load_row rfl 24 (.tmp 2) rfl w.heap.size rfl 24 C (0, 0) _ F0.out Try.underlying24 rfl HINF.out ?_)
    | (rw [← HWZ.out]; refine wpList_store_rowTo rfl 24 (.tmp 5) (.tmp 7) rfl rfl w1.heap.size _ rfl rfl 24 _ H3.out.g0 HINF.out HZS.out HONE.out ?_)
    | (refine wpList_store_rowTo rfl 24 (.tmp 6) (.tmp 8) rfl rfl (w1.heap.size + 1) _ rfl rfl 24 _ H3.out.g1 HINF.out HZS.out HONE.out ?_; rw [← HW2.out]))
  refine (tick_any r _ w1.heap.size w2 BX2.out HROK.out.r').mono ?_
  rintro e w3 ⟨rfl, hx, ho⟩
  have BX3 := Lib.hid hx; have HO3 := Lib.hid ho; clear hx ho
  obtain ⟨X, hX⟩ : ∃ X, X = { r with r := r.r / 128 * 128 + (r.r + 1) % 128 } := ⟨_, rfl⟩
  rw [← hX] at BX3
  have HXE := Lib.hid hX
  clear hX
  have FR3 := Lib.hid ((HO3.out.block w.heap.size (show w.heap.size ≠ w1.heap.size by have := HS1.out; omega)).trans FR2.out)
  have FB3 := Lib.hid ((HO3.out.block (w.heap.size + 1) (show w.heap.size + 1 ≠ w1.heap.size by have := HS1.out; omega)).trans FB2.out)
  have BY3 := Lib.hid (HO3.out.blk (show w1.heap.size + 1 ≠ w1.heap.size by omega) BY2.out)
  have HB3 := Lib.hid (HB2.out.trans (HO3.out.below (by have := HS1.out; omega)))
  have BR3 : Hid (Blk w3 w.heap.size 24 r.cells) := by have h := FR3.out; rw [HC.out] at h; exact h
  have a17 : w3.cell? ⟨w.heap.size, 17, none⟩ = some (.int .u8 r.r) := BR3.out.cell 17
  have z17 : w3.cell? ⟨w1.heap.size + 1, 17, none⟩ = some (.int .u8 r.r) := BY3.out.cell 17
  have y17 := BY3.out.frozen 17
  have HTK := Lib.hid (fun u => refTick_any r.r u HROK.out.r')
  obtain ⟨tk, htk⟩ : ∃ t, t = r.r / 128 * 128 + (r.r + 1) % 128 := ⟨_, rfl⟩
  rw [← htk] at HTK HXE
  clear htk
  obtain ⟨w5, hw5⟩ : ∃ w5, w5 = w3.setCell ⟨w1.heap.size + 1, 17, none⟩ (.int .u8 tk) := ⟨_, rfl⟩
  have ho5 : Only (w1.heap.size + 1) w3 w5 := by rw [hw5]; exact Only.set _ _ _ _
  have by5 : Blk w5 (w1.heap.size + 1) 24 X.cells := by
    have h := BY3.out.set_ 17 (.int .u8 tk)
    rw [← hw5] at h
    rw [HXE.out]
    exact h
  have BY5 := Lib.hid by5
  have HW5 := Lib.hid hw5
  have FR5 := Lib.hid ((ho5.block w.heap.size (show w.heap.size ≠ w1.heap.size + 1 by have := HS1.out; omega)).trans FR3.out)
  have FB5 := Lib.hid ((ho5.block (w.heap.size + 1) (show w.heap.size + 1 ≠ w1.heap.size + 1 by have := HS1.out; omega)).trans FB3.out)
  have BX5 := Lib.hid (ho5.blk (show w1.heap.size ≠ w1.heap.size + 1 by omega) BX3.out)
  have HB5 := Lib.hid (HB3.out.trans (ho5.below (by have := HS1.out; omega)))
  have BR5 : Hid (Blk w5 w.heap.size 24 r.cells) := by have h := FR5.out; rw [HC.out] at h; exact h
  clear hw5 ho5 by5
  go_wp2_with (first
    | (go_at_call 13; refine (HTK.out _).mono ?_; rintro e w4 ⟨rfl, rfl⟩))
  try rw [← HW5.out]
  clear a17 z17 y17
  obtain ⟨CX, hCX⟩ : ∃ D : Array Value, D = X.cells.toArray := ⟨_, rfl⟩
  have HCX := Lib.hid hCX
  have szX : CX.size = 30 := by rw [hCX]; exact X.size
  have hEX : ∀ u : World, (binOp .eql 24 (.agg CX) (.agg CX)).run Try.prog u = .ok (.bool true) u := fun u => by
    rw [HCX.out]
    exact eq_regs X u
  clear hCX
  have ki := HROK.out.i
  have kr := HROK.out.r'
  have ci : w5.cell? ⟨w.heap.size, 16, none⟩ = some (.int .u8 r.i) := BR5.out.cell 16
  have cr : w5.cell? ⟨w.heap.size, 17, none⟩ = some (.int .u8 r.r) := BR5.out.cell 17
  have HIR : Hid (∀ u, Blk u w.heap.size 24 r.cells → Calls Try.prog 14 #[.pointer (some ⟨w.heap.size, 0, none⟩)] u fun e u' => e = .returned (.int .u16 (r.i * 256 + r.r)) ∧ Below u.heap.size u u') := fun u h =>
    (ir_any r _ w.heap.size u h HROK.out).mono fun e u' ⟨h1, h2⟩ => ⟨h1, h2.below⟩
  have HSW : Hid (∀ u, Blk u w.heap.size 24 r.cells → Calls Try.prog 15 #[.pointer (some ⟨w.heap.size, 0, none⟩)] u fun e u' => e = .returned (.string ⟨r.show.toArray⟩) ∧ Below u.heap.size u u') := fun u h =>
    show_any r _ w.heap.size u h HROK.out
  obtain ⟨R, hR⟩ : ∃ R, R = r.show := ⟨_, rfl⟩
  rw [← hR] at HSW HRS
  clear hR
  obtain ⟨ri, hri⟩ : ∃ x, x = r.i := ⟨_, rfl⟩
  obtain ⟨rr, hrr⟩ : ∃ x, x = r.r := ⟨_, rfl⟩
  rw [← hri] at ki ci HIR
  rw [← hrr] at kr cr HIR
  clear hri hrr
  obtain ⟨ka0, ka1⟩ := ki
  obtain ⟨kf0, kf1⟩ := kr
  have e1 : IntKind.i64.wrap (ri * 256 + rr) = ri * 256 + rr := by rw [IntKind.wrap_i64]; omega
  have e2 : IntKind.i64.wrap (256 * ri) = 256 * ri := by rw [IntKind.wrap_i64]; omega
  have e3 : IntKind.i64.wrap (256 * ri + rr) = 256 * ri + rr := by rw [IntKind.wrap_i64]; omega
  have e4 : IntKind.i64.wrap ri = ri := by rw [IntKind.wrap_i64]; omega
  have e5 : IntKind.i64.wrap rr = rr := by rw [IntKind.wrap_i64]; omega
  have e6 : (ri * 256 + rr == 256 * ri + rr) = true := by simp; omega
  have FX : w5.heap[w1.heap.size]? = some (.cells CX 24 (0, 0)) := Blk.arr BX5.out HCX.out
  have FY : w5.heap[w1.heap.size + 1]? = some (.cells CX 24 (0, 0)) := Blk.arr BY5.out HCX.out
  obtain ⟨LD, hl⟩ := some_LD
  have HLD := Lib.hid hl
  have h9 : HeldS LD w5 w.heap.size (w.heap.size + 1) w1.heap.size (w1.heap.size + 1) C CB CX ri rr w5 := ⟨Below.refl _ _, ⟨ci, cr⟩, ⟨FR5.out, FB5.out, FX, FY⟩, LD_of hl hsz FR5.out, LD_of hl hszB FB5.out, LD_of hl szX FX, LD_of hl szX FY⟩
  clear FX FY hl ci cr
  have hN3 : ∀ u : World, (loadVar 24 ⟨w.heap.size, 0, none⟩).run Try.prog u = LD w.heap.size u := fun u => HLD.out _ u
  have hN4 : ∀ u : World, (loadVar 24 ⟨w.heap.size + 1, 0, none⟩).run Try.prog u = LD (w.heap.size + 1) u := fun u => HLD.out _ u
  have hN7 : ∀ u : World, (loadVar 24 ⟨w1.heap.size, 0, none⟩).run Try.prog u = LD w1.heap.size u := fun u => HLD.out _ u
  have hN8 : ∀ u : World, (loadVar 24 ⟨w1.heap.size + 1, 0, none⟩).run Try.prog u = LD (w1.heap.size + 1) u := fun u => HLD.out _ u
  simp [go_sem, loadVar] at hN3 hN4 hN7 hN8
  have HBL : Hid (∀ u : World, HeldS LD w5 w.heap.size (w.heap.size + 1) w1.heap.size (w1.heap.size + 1) C CB CX ri rr u → Blk u w.heap.size 24 r.cells) := fun u ⟨_, _, ⟨h, _⟩, _⟩ => by
    rw [HC.out] at h
    exact h
  have HSM1 : Hid (∀ u : World, HeldS LD w5 w.heap.size (w.heap.size + 1) w1.heap.size (w1.heap.size + 1) C CB CX ri rr u → Calls Try.prog 17 #[.pointer (some ⟨w.heap.size, 0, none⟩), .pointer (some ⟨w.heap.size + 1, 0, none⟩)] u fun e u' => e = .returned (.bool E) ∧ Below u.heap.size u u') := fun u ⟨_, _, ⟨h, h', _⟩, _⟩ =>
    same_any E _ _ C CB u hsz hszB hE h h'
  have HSM2 : Hid (∀ u : World, HeldS LD w5 w.heap.size (w.heap.size + 1) w1.heap.size (w1.heap.size + 1) C CB CX ri rr u → Calls Try.prog 17 #[.pointer (some ⟨w.heap.size, 0, none⟩), .pointer (some ⟨w.heap.size, 0, none⟩)] u fun e u' => e = .returned (.bool true) ∧ Below u.heap.size u u') := fun u ⟨_, _, ⟨h, h', _⟩, _⟩ =>
    same_any true _ _ C C u hsz hsz hT h h
  unfold HeldS at h9
  go_region_held3 (fun w' => Below w5.heap.size w5 w' ∧ (w'.cell? ⟨w.heap.size, 16, none⟩ = some (.int .u8 ri) ∧ w'.cell? ⟨w.heap.size, 17, none⟩ = some (.int .u8 rr)) ∧ (w'.heap[w.heap.size]? = some (.cells C 24 (0, 0)) ∧ w'.heap[(w.heap.size + 1)]? = some (.cells CB 24 (0, 0)) ∧ w'.heap[w1.heap.size]? = some (.cells CX 24 (0, 0)) ∧ w'.heap[(w1.heap.size + 1)]? = some (.cells CX 24 (0, 0))) ∧ LD w.heap.size w' = .ok (.agg C) w' ∧ LD (w.heap.size + 1) w' = .ok (.agg CB) w' ∧ LD w1.heap.size w' = .ok (.agg CX) w' ∧ LD (w1.heap.size + 1) w' = .ok (.agg CX) w') (first | assumption | (refine HeldS.drew HLD.out hsz hszB szX ?_; assumption) | exact HeldS.below HLD.out hsz hszB szX ‹Below _ _ _› ‹_›)
    (first
      | (go_at_call 14; (with_reducible refine (HIR.out _ (HBL.out _ ?_)).mono ?_); (assumption); rintro e w6 ⟨rfl, hb6⟩)
      | (go_at_call 15; (with_reducible refine (HSW.out _ (HBL.out _ ?_)).mono ?_); (assumption); rintro e w7 ⟨rfl, hb7⟩)
      | (go_at_call 16; (with_reducible refine (HRS.out _).mono ?_); rintro e w8 ⟨rfl, hb8⟩)
      | (go_at_call 17; (with_reducible refine (HSM1.out _ ?_).mono ?_); (assumption); rintro e w9 ⟨rfl, hb9⟩)
      | (go_at_call 17; (with_reducible refine (HSM2.out _ ?_).mono ?_); (assumption); rintro e w10 ⟨rfl, hb10⟩)
      | (go_at_call 18; refine (HL.out _).mono ?_; rintro e w11 ⟨rfl, hb11⟩))
  all_goals
    rename_i hS9
    have hB9 := hS9.1
    clear hS9
    go_wp2_with fail
    go_ret
    exact ⟨rfl, HB5.out.trans (hB9.mono HB5.out.size)⟩
end Go.Proofs.Ytfhegloobldokaa
