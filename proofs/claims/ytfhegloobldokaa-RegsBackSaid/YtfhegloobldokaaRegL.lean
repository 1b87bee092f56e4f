/- The law RegsBack: its own body. -/
import Derived.Test.YtfhegloobldokaaRegM
namespace Go.Proofs.Ytfhegloobldokaa
set_option linter.unusedSimpArgs false
set_option linter.unusedVariables false
open Go.RowKit
theorem drew_eq {a b : World} {q : Nat} (h : a = b.drewN q) (n : Nat) : a.drewN n = b.drewN (q + n) := by rw [h, World.drewN_drewN]
set_option maxRecDepth 100000 in
set_option maxHeartbeats 20000000 in
theorem regsBack_any (r : Rg) (k ix v : Int) (w : World) (hr : r.Ok) (hv : B8 v) :
    Calls Try.prog 6 #[.agg r.cells.toArray, .agg #[.int .i64 k, .int .i64 ix], .int .u8 v] w (Yes w) := by
  have hsz := r.size
  have hone := r.one
  obtain ⟨C, hC⟩ : ∃ C : Array Value, C = r.cells.toArray := ⟨_, rfl⟩
  rw [← hC] at hsz hone ⊢
  have HC := Lib.hid hC
  have HONE := Lib.hid hone
  have HINF := Lib.hid (info_of hsz)
  clear hC hone
  obtain ⟨w1, hw1, f0, f1, hB1, hs1⟩ := boxed w C #[.int .i64 k, .int .i64 ix] 24 34
  have HW1 := Lib.hid hw1; have F0 := Lib.hid f0; have F1 := Lib.hid f1; have HB1 := Lib.hid hB1; have HS1 := Lib.hid hs1
  clear hw1 f0 f1 hB1 hs1
  obtain ⟨w2, hw2, f2, hB2, hs2⟩ := copied w1 C 24
  have HW2 := Lib.hid hw2
  have hc := HC.out
  have bR2 : Blk w2 w.heap.size 24 r.cells := by
    have h := (hB2.block w.heap.size (by have := HS1.out; omega)).trans F0.out
    rw [hc] at h
    exact h
  have bN2 : Blk w2 (w.heap.size + 1) 34 [.int .i64 k, .int .i64 ix] := (hB2.block (w.heap.size + 1) (by have := HS1.out; omega)).trans F1.out
  have bX2 : Blk w2 w1.heap.size 24 r.cells := by
    have h := f2
    rw [hc] at h
    exact h
  have n0 : w2.cell? ⟨w.heap.size + 1, 0, none⟩ = some (.int .i64 k) := bN2.cell 0
  have n1 : w2.cell? ⟨w.heap.size + 1, 1, none⟩ = some (.int .i64 ix) := bN2.cell 1
  have BR2 := Lib.hid bR2; have BN2 := Lib.hid bN2; have BX2 := Lib.hid bX2; have HB2 := Lib.hid (HB1.out.trans (hB2.mono (by have := HS1.out; omega))); have HS2 := Lib.hid hs2
  clear hw2 f2 hB2 hs2 hc bR2 bN2 bX2
  go_enter Try.func6, Try.ntmps6
  go_wp2_with (first
    | (refine wpList_load_row rfl 24 (.tmp 3) rfl w.heap.size rfl 24 C (0, 0) _ (heap_alloc2_old w _ _) Try.underlying24 rfl HINF.out ?_; rw [← HW1.out])
    | (refine wpList_store_rowTo rfl 24 (.tmp 7) (.tmp 14) rfl rfl w1.heap.size _ rfl rfl 24 _ (heap_alloc_new w1 _) HINF.out hsz.symm HONE.out ?_; rw [World.setRow_alloc_new, ← HW2.out])
    | (go_at_call 25; refine (putByte_any r _ w1.heap.size k ix v w2 BX2.out hr hv).mono ?_; rintro e w3 ⟨rfl, hx, ho⟩; have BX3 := Lib.hid hx; have HO3 := Lib.hid ho; clear hx ho))
  obtain ⟨X, hX⟩ : ∃ X, X = r.putByte k ix v := ⟨_, rfl⟩
  have hXok : X.Ok := by rw [hX]; exact Rg.put_ok r hr k ix v hv
  have hXb : ∀ j : Int, 0 ≤ j ∧ j ≤ 7 → X.byte j ix = if j = k ∧ j ≠ 6 then v else r.byte j ix := fun j hj => by rw [hX]; exact Rg.byte_put r hr k ix v j hv hj
  rw [← hX] at BX3
  clear hX
  have hne1 : w.heap.size ≠ w1.heap.size := by have := HS1.out; omega
  have hne2 : w.heap.size + 1 ≠ w1.heap.size := by have := HS1.out; omega
  have BR3 := Lib.hid (HO3.out.blk hne1 BR2.out); have BN3 := Lib.hid (HO3.out.blk hne2 BN2.out)
  have HB3 := Lib.hid (HB2.out.trans (HO3.out.below (by have := HS1.out; omega)))
  have m0 : w3.cell? ⟨w.heap.size + 1, 0, none⟩ = some (.int .i64 k) := BN3.out.cell 0
  have m1 : w3.cell? ⟨w.heap.size + 1, 1, none⟩ = some (.int .i64 ix) := BN3.out.cell 1
  clear n0 n1
  have HXB := Lib.hid hXb; have HXOK := Lib.hid hXok; have HROK := Lib.hid hr
  clear hXb hXok hr hne1 hne2
  go_loopw [8] (fun i wr => ∃ j q : Nat, j ≤ 8 ∧ i = .int .i64 j ∧ wr = w3.drewN q) (fun i _ => 8 - (intOf i).toNat)
  case atStart => exact ⟨0, 0, by omega, rfl, rfl⟩
  case round =>
    obtain ⟨j, q, hj, rfl, hwr⟩ := hrel
    by_cases hlt : (j : Int) < 8
    · have HWR := Lib.hid hwr
      have BXw : Hid (Blk wr w1.heap.size 24 X.cells) := by show Blk _ _ _ _; rw [hwr]; exact BX3.out.drewN q
      have BRw : Hid (Blk wr w.heap.size 24 r.cells) := by show Blk _ _ _ _; rw [hwr]; exact BR3.out.drewN q
      have mw0 : wr.cell? ⟨w.heap.size + 1, 0, none⟩ = some (.int .i64 k) := by rw [hwr]; exact m0
      have mw1 : wr.cell? ⟨w.heap.size + 1, 1, none⟩ = some (.int .i64 ix) := by rw [hwr]; exact m1
      clear hwr m0 m1
      have hb := HXB.out j (by omega)
      have HBX := Lib.hid (fun (u : World) (h : Blk u w1.heap.size 24 X.cells) => same_swap (byte_any X _ w1.heap.size j ix u h HXOK.out))
      have HBR := Lib.hid (fun (u : World) (h : Blk u w.heap.size 24 r.cells) => same_swap (byte_any r _ w.heap.size j ix u h HROK.out))
      obtain ⟨bx, hbx⟩ : ∃ b, b = X.byte j ix := ⟨_, rfl⟩
      obtain ⟨br, hbr⟩ : ∃ b, b = r.byte j ix := ⟨_, rfl⟩
      rw [← hbx, ← hbr] at hb
      simp only [← hbx] at HBX
      simp only [← hbr] at HBR
      clear hbx hbr
      by_cases hk : (j : Int) = k
      · have k1 : ((j : Int) != k) = false := by simp [hk]
        have k2 : ((j : Int) == k) = true := by simp [hk]
        by_cases h6 : (j : Int) = 6
        · have k3 : ((j : Int) != 6) = false := by simp [h6]
          clear hb h6 hk HBX HBR
          go_wp2_with fail
          go_quiet (fail)
          go_wp2_with fail
          go_roundw
          case rel => exact ⟨j + 1, _, by omega, by go_num, drew_eq HWR.out _⟩
          case measure => simp [intOf]; omega
        · have k3 : ((j : Int) != 6) = true := by simp [h6]
          rw [if_pos ⟨hk, h6⟩] at hb
          subst hb
          have k4 : (bx != bx) = false := by simp
          clear h6 hk HBR
          go_wp2_with fail
          go_quiet ((go_at_call 27; exact Calls.quiet_of_same (HBX.out _ (BXw.out.drewN _))))
          go_wp2_with fail
          go_roundw
          case rel => exact ⟨j + 1, _, by omega, by go_num, drew_eq HWR.out _⟩
          case measure => simp [intOf]; omega
      · have k1 : ((j : Int) != k) = true := by simp [hk]
        have k2 : ((j : Int) == k) = false := by simp [hk]
        rw [if_neg (by omega)] at hb
        subst hb
        have k4 : (bx != bx) = false := by simp
        clear hk
        go_wp2_with fail
        go_quiet ((first
          | (go_at_call_of 27 (⟨w1.heap.size, 0, none⟩ : Addr); exact Calls.quiet_of_same (HBX.out _ (BXw.out.drewN _)))
          | (go_at_call 27; exact Calls.quiet_of_same (HBR.out _ (BRw.out.drewN _)))))
        go_wp2_with fail
        go_roundw
        case rel => exact ⟨j + 1, _, by omega, by go_num, drew_eq HWR.out _⟩
        case measure => simp [intOf]; omega
    · obtain ⟨wo, rfl⟩ : ∃ wo : World, wo = wr := ⟨_, rfl⟩
      have hBw := HB3.out.trans ((show Below w3.heap.size w3 wo by rw [hwr]; exact Below_drewN (Below.refl _ w3) q).mono HB3.out.size)
      have bRw : Blk wo w.heap.size 24 r.cells := by rw [hwr]; exact BR3.out.drewN q
      have hs3 : w.heap.size + 3 ≤ wo.heap.size := by
        have h1 := HS1.out; have h2 := HS2.out; have h3 := HO3.out.size
        rw [hwr]
        show _ ≤ w3.heap.size
        omega
      clear hwr
      have hr8 : wo.heap[w.heap.size]? = some (.cells C 24 (0, 0)) := by
        have h := bRw
        unfold Blk at h
        rw [← HC.out] at h
        exact h
      obtain ⟨V1, hV1, f1, VB1, vs1⟩ := copied wo C 24
      have HV1 := Lib.hid hV1
      have y1 : Blk V1 wo.heap.size 24 r.cells := by
        have h := f1
        rw [HC.out] at h
        exact h
      have Y1 := Lib.hid y1
      have E1 := Lib.hid (hBw.trans (VB1.mono (by omega)))
      have RR1 := Lib.hid (bRw.below_ VB1)
      have ZS := Lib.hid hs3; have VS1 := Lib.hid vs1
      clear hV1 f1 VB1 vs1 y1 hBw bRw hs3
      go_wp2_with (first
        | (refine wpList_load_row rfl 24 (.tmp 3) rfl w.heap.size rfl 24 C (0, 0) _ hr8 Try.underlying24 rfl HINF.out ?_)
        | (refine wpList_store_rowTo rfl 24 (.tmp 9) (.tmp 58) rfl rfl wo.heap.size _ rfl rfl 24 _ (heap_alloc_new wo _) HINF.out hsz.symm HONE.out ?_; rw [World.setRow_alloc_new, ← HV1.out]))
      clear hr8
      refine (exAf_any r 24 wo.heap.size V1 Y1.out).mono ?_
      rintro e w4 ⟨rfl, hx, ho⟩
      obtain ⟨r1, hr1⟩ : ∃ r1 : Rg, r1 = { r with a := r.a2, a2 := r.a, f := r.f2, f2 := r.f } := ⟨_, rfl⟩
      rw [← hr1] at hx
      have Yw4 := Lib.hid hx
      have Ew4 := Lib.hid (E1.out.trans (ho.below (by have := ZS.out; omega)))
      have Hr1 := Lib.hid hr1
      have RRw4 := Lib.hid (ho.blk (by have := ZS.out; omega) RR1.out)
      clear hx ho hr1
      obtain ⟨C10, hC10⟩ : ∃ D : Array Value, D = r1.cells.toArray := ⟨_, rfl⟩
      have s10 := r1.size
      have o10 := r1.one
      rw [← hC10] at s10 o10
      have i10 := info_of s10
      have f10 : w4.heap[wo.heap.size]? = some (.cells C10 24 (0, 0)) := by
        have h := Yw4.out
        unfold Blk at h
        rw [← hC10] at h
        exact h
      obtain ⟨V4, hV4, g10, VB10, vs10⟩ := copied w4 C10 24
      have K10 : Hid (Blk V4 w4.heap.size 24 r1.cells) := by
        have h := g10
        rw [hC10] at h
        exact h
      have YV4 := Lib.hid (Yw4.out.below_ VB10)
      have EV4 := Lib.hid (Ew4.out.trans (VB10.mono Ew4.out.size))
      have RRV4 := Lib.hid (RRw4.out.below_ VB10)
      have I10 := Lib.hid i10; have O10 := Lib.hid o10; have HV4 := Lib.hid hV4; have S10 := Lib.hid s10
      have N10 := Lib.hid (show wo.heap.size < w4.heap.size from Yw4.out.lt)
      clear hC10 i10 o10 hV4 g10 VB10 vs10 s10
      go_wp2_with (first
        | (refine wpList_load_row rfl 24 (.tmp 9) rfl wo.heap.size rfl 24 C10 (0, 0) _ f10 Try.underlying24 rfl I10.out ?_)
        | (refine wpList_store_rowTo rfl 24 (.tmp 10) (.tmp 60) rfl rfl w4.heap.size _ rfl rfl 24 _ (heap_alloc_new w4 _) I10.out S10.out.symm O10.out ?_; rw [World.setRow_alloc_new, ← HV4.out]))
      clear f10
      refine (exx_any r1 24 wo.heap.size V4 YV4.out).mono ?_
      rintro e w5 ⟨rfl, hx, ho⟩
      obtain ⟨r2, hr2⟩ : ∃ r2 : Rg, r2 = { r1 with b := r1.b2, b2 := r1.b, c := r1.c2, c2 := r1.c, d := r1.d2, d2 := r1.d, e := r1.e2, e2 := r1.e, h := r1.h2, h2 := r1.h, l := r1.l2, l2 := r1.l } := ⟨_, rfl⟩
      rw [← hr2] at hx
      have Yw5 := Lib.hid hx
      have Ew5 := Lib.hid (EV4.out.trans (ho.below (by have := ZS.out; omega)))
      have Hr2 := Lib.hid hr2
      have RRw5 := Lib.hid (ho.blk (by have := ZS.out; omega) RRV4.out)
      have A5 := Lib.hid (ho.blk (by have := N10.out; omega) K10.out)
      clear hx ho hr2
      obtain ⟨C11, hC11⟩ : ∃ D : Array Value, D = r2.cells.toArray := ⟨_, rfl⟩
      have s11 := r2.size
      have o11 := r2.one
      rw [← hC11] at s11 o11
      have i11 := info_of s11
      have f11 : w5.heap[wo.heap.size]? = some (.cells C11 24 (0, 0)) := by
        have h := Yw5.out
        unfold Blk at h
        rw [← hC11] at h
        exact h
      obtain ⟨V5, hV5, g11, VB11, vs11⟩ := copied w5 C11 24
      have K11 : Hid (Blk V5 w5.heap.size 24 r2.cells) := by
        have h := g11
        rw [hC11] at h
        exact h
      have YV5 := Lib.hid (Yw5.out.below_ VB11)
      have EV5 := Lib.hid (Ew5.out.trans (VB11.mono Ew5.out.size))
      have RRV5 := Lib.hid (RRw5.out.below_ VB11)
      have AV5 := Lib.hid (A5.out.below_ VB11)
      have I11 := Lib.hid i11; have O11 := Lib.hid o11; have HV5 := Lib.hid hV5; have S11 := Lib.hid s11
      have N11 := Lib.hid (show wo.heap.size < w5.heap.size from Yw5.out.lt)
      clear hC11 i11 o11 hV5 g11 VB11 vs11 s11
      go_wp2_with (first
        | (refine wpList_load_row rfl 24 (.tmp 9) rfl wo.heap.size rfl 24 C11 (0, 0) _ f11 Try.underlying24 rfl I11.out ?_)
        | (refine wpList_store_rowTo rfl 24 (.tmp 11) (.tmp 62) rfl rfl w5.heap.size _ rfl rfl 24 _ (heap_alloc_new w5 _) I11.out S11.out.symm O11.out ?_; rw [World.setRow_alloc_new, ← HV5.out]))
      clear f11
      refine (exDe_any r2 24 wo.heap.size V5 YV5.out).mono ?_
      rintro e w6 ⟨rfl, hx, ho⟩
      obtain ⟨r3, hr3⟩ : ∃ r3 : Rg, r3 = { r2 with d := r2.h, h := r2.d, e := r2.l, l := r2.e } := ⟨_, rfl⟩
      rw [← hr3] at hx
      have Yw6 := Lib.hid hx
      have Ew6 := Lib.hid (EV5.out.trans (ho.below (by have := ZS.out; omega)))
      have Hr3 := Lib.hid hr3
      have RRw6 := Lib.hid (ho.blk (by have := ZS.out; omega) RRV5.out)
      have A6 := Lib.hid (ho.blk (by have := N10.out; omega) AV5.out)
      have B6 := Lib.hid (ho.blk (by have := N11.out; omega) K11.out)
      clear hx ho hr3
      obtain ⟨C12, hC12⟩ : ∃ D : Array Value, D = r3.cells.toArray := ⟨_, rfl⟩
      have s12 := r3.size
      have o12 := r3.one
      rw [← hC12] at s12 o12
      have i12 := info_of s12
      have f12 : w6.heap[wo.heap.size]? = some (.cells C12 24 (0, 0)) := by
        have h := Yw6.out
        unfold Blk at h
        rw [← hC12] at h
        exact h
      obtain ⟨V6, hV6, g12, VB12, vs12⟩ := copied w6 C12 24
      have K12 : Hid (Blk V6 w6.heap.size 24 r3.cells) := by
        have h := g12
        rw [hC12] at h
        exact h
      have YV6 := Lib.hid (Yw6.out.below_ VB12)
      have EV6 := Lib.hid (Ew6.out.trans (VB12.mono Ew6.out.size))
      have RRV6 := Lib.hid (RRw6.out.below_ VB12)
      have AV6 := Lib.hid (A6.out.below_ VB12)
      have BV6 := Lib.hid (B6.out.below_ VB12)
      have I12 := Lib.hid i12; have O12 := Lib.hid o12; have HV6 := Lib.hid hV6; have S12 := Lib.hid s12
      have N12 := Lib.hid (show wo.heap.size < w6.heap.size from Yw6.out.lt)
      clear hC12 i12 o12 hV6 g12 VB12 vs12 s12
      go_wp2_with (first
        | (refine wpList_load_row rfl 24 (.tmp 9) rfl wo.heap.size rfl 24 C12 (0, 0) _ f12 Try.underlying24 rfl I12.out ?_)
        | (refine wpList_store_rowTo rfl 24 (.tmp 12) (.tmp 64) rfl rfl w6.heap.size _ rfl rfl 24 _ (heap_alloc_new w6 _) I12.out S12.out.symm O12.out ?_; rw [World.setRow_alloc_new, ← HV6.out]))
      clear f12
      have CV6 := K12
      refine (exDe_any r3 24 wo.heap.size V6 YV6.out).mono ?_
      rintro e w7 ⟨rfl, hx, ho⟩
      obtain ⟨r4, hr4⟩ : ∃ r4 : Rg, r4 = { r3 with d := r3.h, h := r3.d, e := r3.l, l := r3.e } := ⟨_, rfl⟩
      rw [← hr4] at hx
      have Yw7 := Lib.hid hx
      have Ew7 := Lib.hid (EV6.out.trans (ho.below (by have := ZS.out; omega)))
      have Hr4 := Lib.hid hr4
      have RRw7 := Lib.hid (ho.blk (by have := ZS.out; omega) RRV6.out)
      have Aw7 := Lib.hid (ho.blk (by have := N10.out; omega) AV6.out)
      have Bw7 := Lib.hid (ho.blk (by have := N11.out; omega) BV6.out)
      have Cw7 := Lib.hid (ho.blk (by have := N12.out; omega) CV6.out)
      clear hx ho hr4
      go_wp2_with fail
      refine (exx_any r4 24 wo.heap.size w7 Yw7.out).mono ?_
      rintro e w8 ⟨rfl, hx, ho⟩
      obtain ⟨r5, hr5⟩ : ∃ r5 : Rg, r5 = { r4 with b := r4.b2, b2 := r4.b, c := r4.c2, c2 := r4.c, d := r4.d2, d2 := r4.d, e := r4.e2, e2 := r4.e, h := r4.h2, h2 := r4.h, l := r4.l2, l2 := r4.l } := ⟨_, rfl⟩
      rw [← hr5] at hx
      have Yw8 := Lib.hid hx
      have Ew8 := Lib.hid (Ew7.out.trans (ho.below (by have := ZS.out; omega)))
      have Hr5 := Lib.hid hr5
      have RRw8 := Lib.hid (ho.blk (by have := ZS.out; omega) RRw7.out)
      have Aw8 := Lib.hid (ho.blk (by have := N10.out; omega) Aw7.out)
      have Bw8 := Lib.hid (ho.blk (by have := N11.out; omega) Bw7.out)
      have Cw8 := Lib.hid (ho.blk (by have := N12.out; omega) Cw7.out)
      clear hx ho hr5
      go_wp2_with fail
      refine (exAf_any r5 24 wo.heap.size w8 Yw8.out).mono ?_
      rintro e w9 ⟨rfl, hx, ho⟩
      obtain ⟨r6, hr6⟩ : ∃ r6 : Rg, r6 = { r5 with a := r5.a2, a2 := r5.a, f := r5.f2, f2 := r5.f } := ⟨_, rfl⟩
      rw [← hr6] at hx
      have Yw9 := Lib.hid hx
      have Ew9 := Lib.hid (Ew8.out.trans (ho.below (by have := ZS.out; omega)))
      have Hr6 := Lib.hid hr6
      have RRw9 := Lib.hid (ho.blk (by have := ZS.out; omega) RRw8.out)
      have Aw9 := Lib.hid (ho.blk (by have := N10.out; omega) Aw8.out)
      have Bw9 := Lib.hid (ho.blk (by have := N11.out; omega) Bw8.out)
      have Cw9 := Lib.hid (ho.blk (by have := N12.out; omega) Cw8.out)
      clear hx ho hr6
      have hr6 : r6 = r := by
        rw [Hr6.out, Hr5.out, Hr4.out, Hr3.out, Hr2.out, Hr1.out]
      have Yw9 : Hid (Blk w9 wo.heap.size 24 r.cells) := by
        have h := Yw9.out
        rw [hr6] at h
        exact h
      clear hr6
      go_wp2_with fail
      have HRB := Lib.hid HROK.out.r'
      have HL := Lib.hid lives06
      have hEQ : ∀ u : World, (binOp .eql 24 (.agg C) (.agg C)).run Try.prog u = .ok (.bool true) u := fun u => by
        rw [HC.out]
        exact eq_regs r u
      have HEQ := Lib.hid hEQ
      clear hEQ
      go_loopw [13] (fun i u => ∃ n : Nat, n ≤ 128 ∧ i = .int .i64 n ∧ Hid (Blk u wo.heap.size 24 (r.ticked n).cells) ∧ Hid (Only wo.heap.size w9 u)) (fun i _ => 128 - (intOf i).toNat)
      case atStart =>
        refine ⟨0, by omega, rfl, ?_, Only.refl _ _⟩
        rw [Rg.ticked_zero r HRB.out]
        exact Yw9
      case round =>
        obtain ⟨n, hn, rfl, hbn, hon⟩ := hrel
        by_cases hlt2 : (n : Int) < 128
        · go_wp2_with fail
          refine (tick_any (r.ticked n) 24 wo.heap.size _ hbn.out (Rg.ticked_b8 r n HRB.out)).mono ?_
          rintro e u2 ⟨rfl, hx, ho⟩
          have hx2 : Hid (Blk u2 wo.heap.size 24 (r.ticked (n + 1)).cells) := by
            have h := hx
            rw [Rg.ticked_next r n HRB.out] at h
            exact h
          have ho2 := Lib.hid (hon.out.trans ho)
          clear hx ho
          go_wp2_with fail
          go_roundw
          case rel => exact ⟨n + 1, by omega, by go_num, hx2, ho2⟩
          case measure => simp [intOf]; omega
        · obtain rfl : n = 128 := by omega
          have hby : wr.heap[wo.heap.size]? = some (.cells C 24 (0, 0)) := by
            have h := hbn.out
            rw [Rg.ticked_all r HRB.out] at h
            unfold Blk at h
            rw [← HC.out] at h
            exact h
          have hR := hon.out.blk (by have := ZS.out; omega) RRw9.out
          have hA := hon.out.blk (by have := N10.out; omega) Aw9.out
          have hB := hon.out.blk (by have := N11.out; omega) Bw9.out
          have hC2 := hon.out.blk (by have := N12.out; omega) Cw9.out
          have hbr : wr.heap[w.heap.size]? = some (.cells C 24 (0, 0)) := by
            have h := hR
            unfold Blk at h
            rw [← HC.out] at h
            exact h
          have EU := Lib.hid (Ew9.out.trans (hon.out.below (by have := ZS.out; omega)))
          have g8 : wr.cell? ⟨w.heap.size, 8, none⟩ = some (.int .u8 r.a2) := hR.cell 8
          have g1 : wr.cell? ⟨w.heap.size, 1, none⟩ = some (.int .u8 r.f) := hR.cell 1
          have g10 : wr.cell? ⟨w.heap.size, 10, none⟩ = some (.int .u8 r.b2) := hR.cell 10
          have g7 : wr.cell? ⟨w.heap.size, 7, none⟩ = some (.int .u8 r.l) := hR.cell 7
          have a0 : wr.cell? ⟨w4.heap.size, 0, none⟩ = some (.int .u8 r.a2) := by have h := hA.cell 0; rw [Hr1.out] at h; exact h
          have a9 : wr.cell? ⟨w4.heap.size, 9, none⟩ = some (.int .u8 r.f) := by have h := hA.cell 9; rw [Hr1.out] at h; exact h
          have d2 : wr.cell? ⟨w5.heap.size, 2, none⟩ = some (.int .u8 r.b2) := by have h := hB.cell 2; rw [Hr2.out, Hr1.out] at h; exact h
          have d15 : wr.cell? ⟨w5.heap.size, 15, none⟩ = some (.int .u8 r.l) := by have h := hB.cell 15; rw [Hr2.out, Hr1.out] at h; exact h
          have d4 : wr.cell? ⟨w5.heap.size, 4, none⟩ = some (.int .u8 r2.d) := hB.cell 4
          have d7 : wr.cell? ⟨w5.heap.size, 7, none⟩ = some (.int .u8 r2.l) := hB.cell 7
          have k6 : wr.cell? ⟨w6.heap.size, 6, none⟩ = some (.int .u8 r2.d) := by have h := hC2.cell 6; rw [Hr3.out] at h; exact h
          have k5 : wr.cell? ⟨w6.heap.size, 5, none⟩ = some (.int .u8 r2.l) := by have h := hC2.cell 5; rw [Hr3.out] at h; exact h
          have hEQ := HEQ.out
          clear hR hA hB hC2 hbn hon
          go_wp2_with (first
            | (refine wpList_load_row rfl 24 (.tmp 9) rfl wo.heap.size rfl 24 C (0, 0) _ hby Try.underlying24 rfl HINF.out ?_)
            | (refine wpList_load_row rfl 24 (.tmp 3) rfl w.heap.size rfl 24 C (0, 0) _ hbr Try.underlying24 rfl HINF.out ?_)
            | (go_at_call 18; refine (HL.out _).mono ?_; rintro e u3 ⟨rfl, hb3⟩))
          go_ret
          exact ⟨rfl, EU.out.trans (hb3.mono EU.out.size)⟩
end Go.Proofs.Ytfhegloobldokaa

