/- The law SpellSame, walked. -/
import Derived.Test.YtokidpajialgbaaSpO
import Derived.Test.YtokidpajialgbaaSpN
import Derived.Test.YtokidpajialgbaaSpC
namespace Go.Proofs.Ytokidpajialgbaa
set_option linter.unusedSimpArgs false
set_option linter.unusedVariables false
open Go.RowKit
set_option maxRecDepth 100000 in
set_option maxHeartbeats 8000000 in
theorem spellSame_body (j0 m0 : Int) (v0 : Value) (L0 : List TB) (j1 m1 : Int) (v1 : Value) (L1 : List TB) (w : World) (h0 : BlksV w v0 L0) (h1 : BlksV w v1 L1) :
    Calls Try.prog 5 #[.agg #[.int .i64 j0, .int .i64 m0, v0], .agg #[.int .i64 j1, .int .i64 m1, v1]] w (SaysB true w) := by
  have HV0 := Lib.hid (fun u (hu : Below w.heap.size w u) => h0.below hu)
  have HV1 := Lib.hid (fun u (hu : Below w.heap.size w u) => h1.below hu)
  obtain ⟨A0, c0, rfl, -⟩ := h0
  obtain ⟨A1, c1, rfl, -⟩ := h1
  generalize L0.length = n0 at HV0 ⊢
  generalize L1.length = n1 at HV1 ⊢
  obtain ⟨T1, hT1⟩ : ∃ T : Array Value, T = #[.int .i64 j0, .int .i64 m0, .slice A0 n0 c0] := ⟨_, rfl⟩
  obtain ⟨T2, hT2⟩ : ∃ T : Array Value, T = #[.int .i64 j1, .int .i64 m1, .slice A1 n1 c1] := ⟨_, rfl⟩
  obtain ⟨t1, ht1⟩ : ∃ b, b = w.heap.size := ⟨_, rfl⟩
  obtain ⟨wa, hwa⟩ : ∃ wa, wa = w.alloc (.cells T1 33) := ⟨_, rfl⟩
  obtain ⟨t2, ht2⟩ : ∃ b, b = wa.heap.size := ⟨_, rfl⟩
  obtain ⟨wb, hwb⟩ : ∃ wb, wb = wa.alloc (.cells T2 33) := ⟨_, rfl⟩
  have kab : Below w.heap.size w wa := by rw [hwa]; exact (Below.refl _ w).alloc (Nat.le_refl _) _
  have kbc : Below wa.heap.size wa wb := by rw [hwb]; exact (Below.refl _ wa).alloc (Nat.le_refl _) _
  have kwb : Below w.heap.size w wb := kab.trans (kbc.mono kab.size)
  have hA1 : Blk wb t1 33 T1.toList := by
    have : Blk wa t1 33 T1.toList := by rw [hwa, ht1]; simpa using Blk.new w 33 T1.toList
    exact this.below_ kbc
  have hA2 : Blk wb t2 33 T2.toList := by rw [hwb, ht2]; simpa using Blk.new wa 33 T2.toList
  have HK : Hid (∀ u, Below wb.heap.size wb u → u.cell? ⟨t1, 2, none⟩ = some (.slice A0 n0 c0) ∧ u.cell? ⟨t2, 2, none⟩ = some (.slice A1 n1 c1) ∧ u.rangeAt t1 0 [.int .i64 j0, .int .i64 m0, .slice A0 n0 c0] ∧ u.rangeAt t2 0 [.int .i64 j1, .int .i64 m1, .slice A1 n1 c1]) := Lib.hid (fun u hu => by
    have hu1 := hA1.below_ hu; have hu2 := hA2.below_ hu
    rw [hT1] at hu1; rw [hT2] at hu2
    exact ⟨hu1.cell 2, hu2.cell 2, (fun i v hi => by rw [Nat.zero_add]; exact (hu1.cell i).trans hi), (fun i v hi => by rw [Nat.zero_add]; exact (hu2.cell i).trans hi)⟩)
  have HT1 : Hid (wa = w.alloc (.cells #[.int .i64 j0, .int .i64 m0, .slice A0 n0 c0] 33)) := by show _ = _; rw [hwa, hT1]
  have HT2 : Hid (wb = wa.alloc (.cells #[.int .i64 j1, .int .i64 m1, .slice A1 n1 c1] 33)) := by show _ = _; rw [hwb, hT2]
  have HB1 := Lib.hid ht1; have HB2 := Lib.hid ht2; have HKB := Lib.hid kwb
  have HW0 := Lib.hid (fun u (hu : Below wb.heap.size wb u) => HV0.out u (HKB.out.trans (hu.mono HKB.out.size)))
  have HW1 := Lib.hid (fun u (hu : Below wb.heap.size wb u) => HV1.out u (HKB.out.trans (hu.mono HKB.out.size)))
  clear hT1 hT2 ht1 hwa ht2 hwb kab kbc kwb hA1 hA2
  go_enter Try.func5, Try.ntmps5
  go_upto_region 0 with fail
  refine wp_region_list ?_
  refine Great.wpList_boxTo rfl 33 (.tmp 0) rfl (some 2) rfl t1 HB1.out.symm #[.int .i64 j0, .int .i64 m0, .slice A0 n0 c0] rfl ?_
  rw [← HT1.out]
  refine Great.wpList_boxTo rfl 33 (.tmp 1) rfl (some 3) rfl t2 HB2.out.symm #[.int .i64 j1, .int .i64 m1, .slice A1 n1 c1] rfl ?_
  rw [← HT2.out]
  obtain ⟨x0, y0, -, -⟩ := HK.out wb (Below.refl _ _)
  have HAL := Lib.hid (all_bool _ L0 wb (HW0.out wb (Below.refl _ _)))
  go_wp2_with (first
    | (go_at_call_of 12 (Value.slice A0 n0 c0)
       refine HAL.out.mono ?_
       rintro e w2 ⟨⟨b1, rfl⟩, hb2⟩
       have HBA := Lib.hid hb2
       have y1 := (HK.out w2 hb2).2.1
       clear hb2))
  · have HAM := Lib.hid (all_bool _ L1 w2 (HW1.out w2 HBA.out))
    go_wp2_with (first
      | (go_at_call_of 12 (Value.slice A1 n1 c1)
         refine HAM.out.mono ?_
         rintro e w3 ⟨⟨b2, rfl⟩, hb3⟩
         have HBB : Hid (Below wb.heap.size wb w3) := Lib.hid (HBA.out.trans (hb3.mono HBA.out.size))
         clear hb3))
    · go_wp2_with (first | (go_at_call 9; refine (lives20 _).mono ?_; rintro e w4 ⟨rfl, hb4⟩; have HBC := Lib.hid hb4; clear hb4))
      go_ret
      exact ⟨rfl, HKB.out.trans ((HBB.out.trans (HBC.out.mono HBB.out.size)).mono HKB.out.size)⟩
    · go_upto_region 3 with fail
      have HQ : Hid (∀ u, Below w3.heap.size w3 u → Below wb.heap.size wb u) := Lib.hid (fun u hu => HBB.out.trans (hu.mono HBB.out.size))
      have HS := Lib.hid (saysB_quiet (W := w3) (fun u hu => same_any j0 m0 j1 m1 _ _ L0 L1 u (HW0.out u (HQ.out u hu)) (HW1.out u (HQ.out u hu))))
      have HT := Lib.hid (saysB_quiet (W := w3) (fun u hu => sameTape_any j0 m0 j1 m1 _ _ L0 L1 u (HW0.out u (HQ.out u hu)) (HW1.out u (HQ.out u hu))))
      have HR := Lib.hid (saysB_quiet (W := w3) (fun u hu => same_any j0 m0 j0 m0 _ _ L0 L0 u (HW0.out u (HQ.out u hu)) (HW0.out u (HQ.out u hu))))
      rw [tapesEq_refl] at HR
      have HL := Lib.hid (saysB_quiet (W := w3) (fun u _ => lives20 u))
      obtain ⟨-, -, r0, r1⟩ := HK.out w3 HBB.out
      have HR0 := Lib.hid r0; have HR1 := Lib.hid r1
      generalize tapesEq j0 m0 j1 m1 L0 L1 = r at HS HT
      clear x0 y0 y1 r0 r1
      have HI : Hid ((Try.prog.info? 33).map (·.size) = some 3) := by show _ = _; kernel_rfl
      cases r
      all_goals
        refine wp_region_quiet_below (by kernel_rfl) (by kernel_rfl) ?_
        iterate 8 (first
          | (refine wpQuiet_step (fun K hK => ?_)
             refine quiet_loadAt (by rfl) 33 (.tmp 2) rfl t1 0 rfl _ _ (range_quiet HR0.out) Try.underlying33 rfl HI.out (hK _ ?_)
             clear hK K)
          | (refine wpQuiet_step (fun K hK => ?_)
             refine quiet_loadAt (by rfl) 33 (.tmp 3) rfl t2 0 rfl _ _ (range_quiet HR1.out) Try.underlying33 rfl HI.out (hK _ ?_)
             clear hK K)
          | quiet_step (first
              | (go_at_call 15; exact HS.out _ _)
              | (go_at_call 16; exact HT.out _ _)
              | (go_at_call 9; exact HL.out _ _)))
        repeat (first
          | (refine wpQuiet_step (fun K hK => ?_)
             refine quiet_loadAt (by rfl) 33 (.tmp 2) rfl t1 0 rfl _ _ (range_quiet HR0.out) Try.underlying33 rfl HI.out (hK _ ?_)
             clear hK K)
          | (refine wpQuiet_step (fun K hK => ?_)
             refine quiet_loadAt (by rfl) 33 (.tmp 3) rfl t2 0 rfl _ _ (range_quiet HR1.out) Try.underlying33 rfl HI.out (hK _ ?_)
             clear hK K)
          | quiet_step (first
              | (go_at_call 15; exact HR.out _ _)
              | (go_at_call 16; exact HT.out _ _)
              | (go_at_call 9; exact HL.out _ _)))
        refine wpQuiet_nil ?_
        intro u hwq
        have HBQ : Hid (Below wb.heap.size wb u) := by obtain ⟨p, rfl⟩ := hwq; exact Lib.hid (HQ.out _ (below_regrown w3 p.d p.os))
        clear hwq
        go_wp2_with fail
        go_ret
        exact ⟨rfl, HKB.out.trans (HBQ.out.mono HKB.out.size)⟩
  · go_wp2_with (first | (go_at_call 9; refine (lives20 _).mono ?_; rintro e w3 ⟨rfl, hb3⟩; have HBC := Lib.hid hb3; clear hb3))
    go_ret
    exact ⟨rfl, HKB.out.trans ((HBA.out.trans (HBC.out.mono HBA.out.size)).mono HKB.out.size)⟩
end Go.Proofs.Ytokidpajialgbaa
