/- The law RegsBytes: its own body: the walk. -/
import Derived.Test.YtfhegloobldokaaRegR
import Derived.Deep.DeepCutAuto
namespace Go.Proofs.Ytfhegloobldokaa
set_option linter.unusedSimpArgs false
set_option linter.unusedVariables false
open Go.RowKit
set_option maxRecDepth 100000 in
set_option maxHeartbeats 20000000 in
theorem regsBytes_any (r : Rg) (k ix v : Int) (w : World) (hr : r.Ok) (hv : B8 v) :
    Calls Try.prog 5 #[.agg r.cells.toArray, .agg #[.int .i64 k, .int .i64 ix], .int .u8 v] w (Yes w) := by
  have hsz := r.size
  have hone := r.one
  obtain ⟨C, hC⟩ : ∃ C : Array Value, C = r.cells.toArray := ⟨_, rfl⟩
  rw [← hC] at hsz hone ⊢
  have HC := Lib.hid hC
  have HONE := Lib.hid hone
  have HINF := Lib.hid (info_of hsz)
  have HL := Lib.hid lives06
  clear hC hone
  obtain ⟨w1, hw1, f0, f1, hB1, hs1⟩ := boxed w C #[.int .i64 k, .int .i64 ix] 24 34
  have HW1 := Lib.hid hw1; have F0 := Lib.hid f0; have F1 := Lib.hid f1; have HB1 := Lib.hid hB1; have HS1 := Lib.hid hs1
  clear hw1 f0 f1 hB1 hs1
  obtain ⟨w2, hw2, f2, hB2, hs2⟩ := copied w1 C 24
  have HW2 := Lib.hid hw2
  have hc := HC.out
  have bR2 : Blk w2 w.heap.size 24 r.cells := by
    have h := (hB2.block w.heap.size (by have := HS1.out; omega)).trans F0.out
    rw [hc] at h
    exact h
  have bN2 : Blk w2 (w.heap.size + 1) 34 [.int .i64 k, .int .i64 ix] := (hB2.block (w.heap.size + 1) (by have := HS1.out; omega)).trans F1.out
  have bX2 : Blk w2 w1.heap.size 24 r.cells := by
    have h := f2
    rw [hc] at h
    exact h
  have n0 : w2.cell? ⟨w.heap.size + 1, 0, none⟩ = some (.int .i64 k) := bN2.cell 0
  have n1 : w2.cell? ⟨w.heap.size + 1, 1, none⟩ = some (.int .i64 ix) := bN2.cell 1
  have BR2 := Lib.hid bR2; have BN2 := Lib.hid bN2; have BX2 := Lib.hid bX2; have HB2 := Lib.hid (HB1.out.trans (hB2.mono (by have := HS1.out; omega))); have HS2 := Lib.hid hs2
  clear hw2 f2 hB2 hs2 hc bR2 bN2 bX2
  have HROK := Lib.hid hr; have HV8 := Lib.hid hv
  obtain ⟨B, hB⟩ : ∃ B, B = r.byte k ix := ⟨_, rfl⟩
  have HBY := Lib.hid (fun u (h : Blk u w.heap.size 24 r.cells) => byte_any r 24 w.heap.size k ix u h hr)
  rw [← hB] at HBY
  have HBE := Lib.hid hB
  clear hB
  by_cases hk : 0 ≤ k ∧ k < 8
  · obtain ⟨κ, rfl⟩ := Int.eq_ofNat_of_zero_le hk.1
    have kl : (κ : Int) < 8 := hk.2
    have kn : κ < 8 := by omega
    have HLA := Lib.hid (list_at r ix κ kn)
    have HLA2 : Hid ((r.list ix)[κ]? = some (.int .u8 B)) := by show _ = _; rw [HLA.out, HBE.out]
    clear hk HLA
    go_enter Try.func5, Try.ntmps5
    go_wp2_with (first
      | (refine wpList_load_row rfl 24 (.tmp 3) rfl w.heap.size rfl 24 C (0, 0) _ (heap_alloc2_old w _ _) Try.underlying24 rfl HINF.out ?_; rw [← HW1.out])
      | (refine wpList_store_rowTo rfl 24 (.tmp 7) (.tmp 9) rfl rfl w1.heap.size _ rfl rfl 24 _ (heap_alloc_new w1 _) HINF.out hsz.symm HONE.out ?_; rw [World.setRow_alloc_new, ← HW2.out]))
    refine (putByte_any r _ w1.heap.size (κ : Int) ix v w2 BX2.out HROK.out HV8.out).mono ?_
    rintro e w3 ⟨rfl, hx, ho⟩
    have BX3 := Lib.hid hx; have HO3 := Lib.hid ho; clear hx ho
    obtain ⟨X, hX⟩ : ∃ X, X = r.putByte (κ : Int) ix v := ⟨_, rfl⟩
    rw [← hX] at BX3
    have HXE := Lib.hid hX
    clear hX
    have BR3 := Lib.hid (HO3.out.blk (show w.heap.size ≠ w1.heap.size by have := HS1.out; omega) BR2.out)
    have BN3 := Lib.hid (HO3.out.blk (show w.heap.size + 1 ≠ w1.heap.size by have := HS1.out; omega) BN2.out)
    have HB3 := Lib.hid (HB2.out.trans (HO3.out.below (by have := HS1.out; omega)))
    have m0 : w3.cell? ⟨w.heap.size + 1, 0, none⟩ = some (.int .i64 (κ : Int)) := BN3.out.cell 0
    have m1 : w3.cell? ⟨w.heap.size + 1, 1, none⟩ = some (.int .i64 ix) := BN3.out.cell 1
    have h9 : Held6 w3 w.heap.size (w.heap.size + 1) w1.heap.size r X (κ : Int) ix w3 := ⟨Below.refl _ w3, BR3.out.regs, ⟨m0, m1⟩, BX3.out.regs⟩
    clear n0 n1
    have kz : (0 : Int) ≤ (κ : Int) := by omega
    clear h9
    have HX3 := Lib.hid (show w3.heap[w1.heap.size]? = some (.cells #[.int .u8 X.a, .int .u8 X.f, .int .u8 X.b, .int .u8 X.c, .int .u8 X.d, .int .u8 X.e, .int .u8 X.h, .int .u8 X.l, .int .u8 X.a2, .int .u8 X.f2, .int .u8 X.b2, .int .u8 X.c2, .int .u8 X.d2, .int .u8 X.e2, .int .u8 X.h2, .int .u8 X.l2, .int .u8 X.i, .int .u8 X.r, .int .u8 X.q, .int .u16 X.ix, .int .u16 X.iy, .int .u16 X.sp, .int .u16 X.pc, .int .u16 X.wz, .bool X.iff1, .bool X.iff2, .bool X.halt, .bool X.hold, .int .u8 X.im, .int .u8 X.pre] 24 (0, 0)) from Blk.arr BX3.out rfl)
    go_upto_region 5 with fail
    go_cut [8] (fun x wx => x = .int .u8 B ∧ Below w3.heap.size w3 wx)
    case first =>
      have FR3 : w3.drew.heap[w.heap.size]? = some (.cells C 24 (0, 0)) := Blk.arr BR3.out HC.out
      have hL := run_loadVar_row (P := Try.prog) w3.drew w.heap.size 24 24 C (0, 0) _ FR3 Try.underlying24 rfl HINF.out
      simp [go_sem, loadVar] at hL
      go_region_with (first
        | (go_at_call 26; refine (list_any r HROK.out C HC.out ix _).mono ?_; rintro e w4 ⟨gl, rfl, bl, hgl, hbl⟩; have hq : w4.cell? ⟨gl, κ, none⟩ = some (.int .u8 B) := (bl.cell κ).trans HLA2.out; have FB4 := Lib.hid hbl; have m0' := (hbl.cell (block_lt_of_cell m0)).trans m0; have m1' := (hbl.cell (block_lt_of_cell m1)).trans m1; clear bl hgl hbl))
      all_goals
        go_wp2_with fail
        go_meet
        exact ⟨rfl, (Below.refl _ w3).drew.trans FB4.out⟩
    case rest =>
      obtain ⟨rfl, hB5⟩ := hcut
      have BRc := Lib.hid (BR3.out.below_ hB5); have BXc := Lib.hid (BX3.out.below_ hB5); have Ec := Lib.hid (HB3.out.trans (hB5.mono HB3.out.size))
      have m0c := (hB5.cell (block_lt_of_cell m0)).trans m0
      have m1c := (hB5.cell (block_lt_of_cell m1)).trans m1
      clear hB5 m0 m1
      obtain ⟨CX, hCX⟩ : ∃ D : Array Value, D = X.cells.toArray := ⟨_, rfl⟩
      have HCX := Lib.hid hCX
      have szX : CX.size = 30 := by rw [hCX]; exact X.size
      have HINX := Lib.hid (info_of szX)
      have hEQ : ∀ u : World, (binOp .eql 24 (.agg CX) (.agg CX)).run Try.prog u = .ok (.bool true) u := fun u => by
        rw [HCX.out]
        exact eq_regs X u
      clear hCX
      have FRd : wc.heap[w.heap.size]? = some (.cells C 24 (0, 0)) := Blk.arr BRc.out HC.out
      have FXd : wc.heap[w1.heap.size]? = some (.cells CX 24 (0, 0)) := Blk.arr BXc.out HCX.out
      obtain ⟨LD, hl⟩ := some_LD
      have HLD := Lib.hid hl
      have h9 : Held2 LD wc (w.heap.size + 1) w.heap.size w1.heap.size C CX (κ : Int) ix wc := ⟨Below.refl _ _, ⟨m0c, m1c⟩, ⟨FRd, FXd⟩, LD_of hl hsz FRd, LD_of hl szX FXd⟩
      clear FRd FXd hl
      go_wp2_with fail
      have hN3 : ∀ u : World, (loadVar 24 ⟨w.heap.size, 0, none⟩).run Try.prog u = LD w.heap.size u := fun u => HLD.out _ u
      have hN7 : ∀ u : World, (loadVar 24 ⟨w1.heap.size, 0, none⟩).run Try.prog u = LD w1.heap.size u := fun u => HLD.out _ u
      simp [go_sem, loadVar] at hN3 hN7
      unfold Held2 at h9
      go_region_held3 (fun w' => Below wc.heap.size wc w' ∧ (w'.cell? ⟨(w.heap.size + 1), 0, none⟩ = some (.int .i64 (κ : Int)) ∧ w'.cell? ⟨(w.heap.size + 1), 1, none⟩ = some (.int .i64 ix)) ∧ (w'.heap[w.heap.size]? = some (.cells C 24 (0, 0)) ∧ w'.heap[w1.heap.size]? = some (.cells CX 24 (0, 0))) ∧ LD w.heap.size w' = .ok (.agg C) w' ∧ LD w1.heap.size w' = .ok (.agg CX) w') (first | assumption | (refine Held2.drew HLD.out hsz szX ?_; assumption) | exact Held2.below HLD.out hsz szX ‹Below _ _ _› ‹_›)
        (first
          | (go_at_call 27; refine (HBY.out _ (BRc.out.drew)).mono ?_; rintro e w' ⟨rfl, rfl⟩)
          | (go_at_call 28; refine (put_all r HROK.out C HC.out (κ : Int) ix v _ HV8.out X HXE.out CX HCX.out).mono ?_; rintro e w5 ⟨rfl, hb5⟩)
          | (go_at_call 18; refine (HL.out _).mono ?_; rintro e w6 ⟨rfl, hb6⟩))
      all_goals
        rename_i hS9
        have hB9 := hS9.1
        clear hS9
        go_wp2_with fail
        go_ret
        exact ⟨rfl, Ec.out.trans (hB9.mono Ec.out.size)⟩
  · have kc : k < 0 ∨ 8 ≤ k := by omega
    have e0 : B = 0 := by rw [HBE.out]; exact byte_out r k ix kc
    subst e0
    clear hk
    rcases kc with kc | kc
    · go_enter Try.func5, Try.ntmps5
      go_wp2_with (first
        | (refine wpList_load_row rfl 24 (.tmp 3) rfl w.heap.size rfl 24 C (0, 0) _ (heap_alloc2_old w _ _) Try.underlying24 rfl HINF.out ?_; rw [← HW1.out])
        | (refine wpList_store_rowTo rfl 24 (.tmp 7) (.tmp 9) rfl rfl w1.heap.size _ rfl rfl 24 _ (heap_alloc_new w1 _) HINF.out hsz.symm HONE.out ?_; rw [World.setRow_alloc_new, ← HW2.out]))
      refine (putByte_any r _ w1.heap.size k ix v w2 BX2.out HROK.out HV8.out).mono ?_
      rintro e w3 ⟨rfl, hx, ho⟩
      have BX3 := Lib.hid hx; have HO3 := Lib.hid ho; clear hx ho
      obtain ⟨X, hX⟩ : ∃ X, X = r.putByte k ix v := ⟨_, rfl⟩
      rw [← hX] at BX3
      have HXE := Lib.hid hX
      clear hX
      have BR3 := Lib.hid (HO3.out.blk (show w.heap.size ≠ w1.heap.size by have := HS1.out; omega) BR2.out)
      have BN3 := Lib.hid (HO3.out.blk (show w.heap.size + 1 ≠ w1.heap.size by have := HS1.out; omega) BN2.out)
      have HB3 := Lib.hid (HB2.out.trans (HO3.out.below (by have := HS1.out; omega)))
      have m0 : w3.cell? ⟨w.heap.size + 1, 0, none⟩ = some (.int .i64 k) := BN3.out.cell 0
      have m1 : w3.cell? ⟨w.heap.size + 1, 1, none⟩ = some (.int .i64 ix) := BN3.out.cell 1
      have h9 : Held6 w3 w.heap.size (w.heap.size + 1) w1.heap.size r X k ix w3 := ⟨Below.refl _ w3, BR3.out.regs, ⟨m0, m1⟩, BX3.out.regs⟩
      clear n0 n1
      clear h9
      have BRc := BR3; have BXc := BX3; have Ec := HB3; have m0c := m0; have m1c := m1
      clear m0 m1
      obtain ⟨CX, hCX⟩ : ∃ D : Array Value, D = X.cells.toArray := ⟨_, rfl⟩
      have HCX := Lib.hid hCX
      have szX : CX.size = 30 := by rw [hCX]; exact X.size
      have HINX := Lib.hid (info_of szX)
      have hEQ : ∀ u : World, (binOp .eql 24 (.agg CX) (.agg CX)).run Try.prog u = .ok (.bool true) u := fun u => by
        rw [HCX.out]
        exact eq_regs X u
      clear hCX
      have FRd : w3.heap[w.heap.size]? = some (.cells C 24 (0, 0)) := Blk.arr BRc.out HC.out
      have FXd : w3.heap[w1.heap.size]? = some (.cells CX 24 (0, 0)) := Blk.arr BXc.out HCX.out
      obtain ⟨LD, hl⟩ := some_LD
      have HLD := Lib.hid hl
      have h9 : Held2 LD w3 (w.heap.size + 1) w.heap.size w1.heap.size C CX k ix w3 := ⟨Below.refl _ _, ⟨m0c, m1c⟩, ⟨FRd, FXd⟩, LD_of hl hsz FRd, LD_of hl szX FXd⟩
      clear FRd FXd hl
      go_wp2_with fail
      have hN3 : ∀ u : World, (loadVar 24 ⟨w.heap.size, 0, none⟩).run Try.prog u = LD w.heap.size u := fun u => HLD.out _ u
      have hN7 : ∀ u : World, (loadVar 24 ⟨w1.heap.size, 0, none⟩).run Try.prog u = LD w1.heap.size u := fun u => HLD.out _ u
      simp [go_sem, loadVar] at hN3 hN7
      unfold Held2 at h9
      go_region_held3 (fun w' => Below w3.heap.size w3 w' ∧ (w'.cell? ⟨(w.heap.size + 1), 0, none⟩ = some (.int .i64 k) ∧ w'.cell? ⟨(w.heap.size + 1), 1, none⟩ = some (.int .i64 ix)) ∧ (w'.heap[w.heap.size]? = some (.cells C 24 (0, 0)) ∧ w'.heap[w1.heap.size]? = some (.cells CX 24 (0, 0))) ∧ LD w.heap.size w' = .ok (.agg C) w' ∧ LD w1.heap.size w' = .ok (.agg CX) w') (first | assumption | (refine Held2.drew HLD.out hsz szX ?_; assumption) | exact Held2.below HLD.out hsz szX ‹Below _ _ _› ‹_›)
        (first
          | (go_at_call 27; refine (HBY.out _ (BRc.out.drew)).mono ?_; rintro e w' ⟨rfl, rfl⟩)
          | (go_at_call 28; refine (put_all r HROK.out C HC.out k ix v _ HV8.out X HXE.out CX HCX.out).mono ?_; rintro e w5 ⟨rfl, hb5⟩)
          | (go_at_call 18; refine (HL.out _).mono ?_; rintro e w6 ⟨rfl, hb6⟩))
      all_goals
        rename_i hS9
        have hB9 := hS9.1
        clear hS9
        go_wp2_with fail
        go_ret
        exact ⟨rfl, Ec.out.trans (hB9.mono Ec.out.size)⟩
    · go_enter Try.func5, Try.ntmps5
      go_wp2_with (first
        | (refine wpList_load_row rfl 24 (.tmp 3) rfl w.heap.size rfl 24 C (0, 0) _ (heap_alloc2_old w _ _) Try.underlying24 rfl HINF.out ?_; rw [← HW1.out])
        | (refine wpList_store_rowTo rfl 24 (.tmp 7) (.tmp 9) rfl rfl w1.heap.size _ rfl rfl 24 _ (heap_alloc_new w1 _) HINF.out hsz.symm HONE.out ?_; rw [World.setRow_alloc_new, ← HW2.out]))
      refine (putByte_any r _ w1.heap.size k ix v w2 BX2.out HROK.out HV8.out).mono ?_
      rintro e w3 ⟨rfl, hx, ho⟩
      have BX3 := Lib.hid hx; have HO3 := Lib.hid ho; clear hx ho
      obtain ⟨X, hX⟩ : ∃ X, X = r.putByte k ix v := ⟨_, rfl⟩
      rw [← hX] at BX3
      have HXE := Lib.hid hX
      clear hX
      have BR3 := Lib.hid (HO3.out.blk (show w.heap.size ≠ w1.heap.size by have := HS1.out; omega) BR2.out)
      have BN3 := Lib.hid (HO3.out.blk (show w.heap.size + 1 ≠ w1.heap.size by have := HS1.out; omega) BN2.out)
      have HB3 := Lib.hid (HB2.out.trans (HO3.out.below (by have := HS1.out; omega)))
      have m0 : w3.cell? ⟨w.heap.size + 1, 0, none⟩ = some (.int .i64 k) := BN3.out.cell 0
      have m1 : w3.cell? ⟨w.heap.size + 1, 1, none⟩ = some (.int .i64 ix) := BN3.out.cell 1
      have h9 : Held6 w3 w.heap.size (w.heap.size + 1) w1.heap.size r X k ix w3 := ⟨Below.refl _ w3, BR3.out.regs, ⟨m0, m1⟩, BX3.out.regs⟩
      clear n0 n1
      clear h9
      have BRc := BR3; have BXc := BX3; have Ec := HB3; have m0c := m0; have m1c := m1
      clear m0 m1
      obtain ⟨CX, hCX⟩ : ∃ D : Array Value, D = X.cells.toArray := ⟨_, rfl⟩
      have HCX := Lib.hid hCX
      have szX : CX.size = 30 := by rw [hCX]; exact X.size
      have HINX := Lib.hid (info_of szX)
      have hEQ : ∀ u : World, (binOp .eql 24 (.agg CX) (.agg CX)).run Try.prog u = .ok (.bool true) u := fun u => by
        rw [HCX.out]
        exact eq_regs X u
      clear hCX
      have FRd : w3.heap[w.heap.size]? = some (.cells C 24 (0, 0)) := Blk.arr BRc.out HC.out
      have FXd : w3.heap[w1.heap.size]? = some (.cells CX 24 (0, 0)) := Blk.arr BXc.out HCX.out
      obtain ⟨LD, hl⟩ := some_LD
      have HLD := Lib.hid hl
      have h9 : Held2 LD w3 (w.heap.size + 1) w.heap.size w1.heap.size C CX k ix w3 := ⟨Below.refl _ _, ⟨m0c, m1c⟩, ⟨FRd, FXd⟩, LD_of hl hsz FRd, LD_of hl szX FXd⟩
      clear FRd FXd hl
      go_wp2_with fail
      have hN3 : ∀ u : World, (loadVar 24 ⟨w.heap.size, 0, none⟩).run Try.prog u = LD w.heap.size u := fun u => HLD.out _ u
      have hN7 : ∀ u : World, (loadVar 24 ⟨w1.heap.size, 0, none⟩).run Try.prog u = LD w1.heap.size u := fun u => HLD.out _ u
      simp [go_sem, loadVar] at hN3 hN7
      unfold Held2 at h9
      go_region_held3 (fun w' => Below w3.heap.size w3 w' ∧ (w'.cell? ⟨(w.heap.size + 1), 0, none⟩ = some (.int .i64 k) ∧ w'.cell? ⟨(w.heap.size + 1), 1, none⟩ = some (.int .i64 ix)) ∧ (w'.heap[w.heap.size]? = some (.cells C 24 (0, 0)) ∧ w'.heap[w1.heap.size]? = some (.cells CX 24 (0, 0))) ∧ LD w.heap.size w' = .ok (.agg C) w' ∧ LD w1.heap.size w' = .ok (.agg CX) w') (first | assumption | (refine Held2.drew HLD.out hsz szX ?_; assumption) | exact Held2.below HLD.out hsz szX ‹Below _ _ _› ‹_›)
        (first
          | (go_at_call 27; refine (HBY.out _ (BRc.out.drew)).mono ?_; rintro e w' ⟨rfl, rfl⟩)
          | (go_at_call 28; refine (put_all r HROK.out C HC.out k ix v _ HV8.out X HXE.out CX HCX.out).mono ?_; rintro e w5 ⟨rfl, hb5⟩)
          | (go_at_call 18; refine (HL.out _).mono ?_; rintro e w6 ⟨rfl, hb6⟩))
      all_goals
        rename_i hS9
        have hB9 := hS9.1
        clear hS9
        go_wp2_with fail
        go_ret
        exact ⟨rfl, Ec.out.trans (hB9.mono Ec.out.size)⟩
end Go.Proofs.Ytfhegloobldokaa
