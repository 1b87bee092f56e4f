/- spell.May, over any block. -/
import Derived.Test.YtokidpajialgbaaQSpMA
namespace Go.Proofs.Ytokidpajialgbaa
set_option linter.unusedSimpArgs false
set_option linter.unusedVariables false
open Go.RowKit
def mayB (B : TB) : Bool := fitS 255 [B.id] && ((sndB B).1 && fitS 0 (sndB B).2.rest)
set_option maxRecDepth 100000 in
set_option maxHeartbeats 8000000 in
theorem may_any (cs : List Value) (B : TB) (w : World) (h : TBV w cs B) : Calls Try.prog 10 #[.agg cs.toArray] w (SaysB (mayB B) w) := by
  obtain ⟨T2, hT2, hsnd⟩ := sp_sound_any cs B w h
  have hlen := h.len
  have hone := h.one2
  have hid : cs[0]? = some (.int .i64 B.id) := by
    obtain ⟨_, d, t, i, p, s, r, rfl, -⟩ := h
    rfl
  obtain ⟨G, hG⟩ : ∃ G, G = mayB B := ⟨_, rfl⟩
  have hG2 : G = (fitS 255 [B.id] && ((sndB B).1 && fitS 0 (sndB B).2.rest)) := hG
  rw [← hG]
  clear hG
  obtain ⟨id, hid2⟩ : ∃ x, x = B.id := ⟨_, rfl⟩
  obtain ⟨q0, hq0⟩ : ∃ q, fitS 255 [id] = q := ⟨_, rfl⟩
  obtain ⟨q1, hq1⟩ : ∃ q, (sndB B).1 = q := ⟨_, rfl⟩
  obtain ⟨X, hX⟩ : ∃ X, (sndB B).2 = X := ⟨_, rfl⟩
  rw [← hid2] at hid hG2
  rw [hq0, hq1, hX] at hG2
  rw [hX] at hT2
  rw [hq1] at hsnd
  have HQ0 := Lib.hid hq0
  have HG := Lib.hid hG2
  have HLEN2 := hT2.len
  have HONE2 := hT2.one2
  obtain ⟨Z, hZ⟩ : ∃ Z : List Value, Z = [.int .i64 0, .int .i64 0, .int .i64 0, .int .i64 0, .int .i64 0, .int .i64 0, .int .i64 0, .int .i64 0, .int .i64 0, .int .i64 0, .int .i64 0, .int .i64 0, .slice none 0 0, .slice none 0 0, .slice none 0 0, .slice none 0 0, .slice none 0 0, .slice none 0 0] := ⟨_, rfl⟩
  have HZ : Hid ((Try.prog.info? 28).bind (·.zero) = some (.agg Z.toArray)) := by show _ = _; rw [hZ]; kernel_rfl
  have HZL : Hid (Z.length = T2.length) := by show _ = _; rw [HLEN2, hZ]; rfl
  have HI : Hid ((Try.prog.info? 28).map (·.size) = some cs.length) := by show _ = _; rw [hlen]; exact infoBlkS
  have HI2 : Hid ((Try.prog.info? 28).map (·.size) = some T2.length) := by show _ = _; rw [HLEN2]; exact infoBlkS
  have HO2 := Lib.hid HONE2
  have HS := Lib.hid hsnd
  have HT2 := Lib.hid hT2
  obtain ⟨bx, hbx⟩ : ∃ b, b = w.heap.size := ⟨_, rfl⟩
  obtain ⟨wa, hwa⟩ : ∃ wa, wa = w.alloc (.cells cs.toArray 28) := ⟨_, rfl⟩
  have hA : Blk wa bx 28 cs := by rw [hwa, hbx]; exact Blk.new w _ cs
  have hbl : Below w.heap.size w wa := by rw [hwa]; exact (Below.refl _ w).alloc (Nat.le_refl _) _
  have x0 : wa.cell? ⟨bx, 0, none⟩ = some (.int .i64 id) := (hA.cell 0).trans hid
  have HKB : Hid (∀ o, Blk (wa.alloc o) bx 28 cs) := Lib.hid (fun o => hA.alloc o)
  have HBX := Lib.hid hbx; have HWA := Lib.hid hwa; have HBL := Lib.hid hbl
  clear hlen hone hid hG2 hid2 hq0 hq1 hX HLEN2 HONE2 hZ hbx hwa hA hbl hsnd hT2 h
  go_enter Try.func10, Try.ntmps10
  go_upto_region 0 with fail
  refine wp_region_list ?_
  refine Great.wpList_boxTo rfl 28 (.tmp 0) rfl (some 1) rfl bx HBX.out.symm cs.toArray rfl ?_
  rw [← HWA.out]
  cases q0
  · go_wp2_with (first
      | (go_at_call 18; refine (fit_newB 255 [id] _ _ rfl 1 rfl (by decide) HQ0.out).mono ?_; rintro e w2 ⟨rfl, rfl⟩))
    go_ret
    exact SaysB.of HG.out.symm (HBL.out.alloc HBL.out.size _)
  · cases q1
    · go_wp2_with (first
        | (go_at_call 18; refine (fit_newB 255 [id] _ _ rfl 1 rfl (by decide) HQ0.out).mono ?_; rintro e w2 ⟨rfl, rfl⟩)
        | (refine wpList_load_mid rfl 28 (.tmp 1) rfl bx 0 rfl cs _ (blkR (HKB.out _)) Try.underlying28 rfl HI.out ?_)
        | (go_at_call 19; refine (HS.out _ (HBL.out.alloc HBL.out.size _)).mono ?_; rintro e w2 ⟨rfl, hb2⟩; have HB2 := Lib.hid ((HBL.out.alloc HBL.out.size (.cells #[.int .i64 id] 3)).trans (hb2.mono (HBL.out.alloc HBL.out.size _).size)); clear hb2)
        | (refine wpList_allocToS rfl 28 rfl (some 4) rfl w2.heap.size rfl (.agg Z.toArray) HZ.out ?_; rw [show (Value.agg Z.toArray).cells = Z.toArray from rfl])
        | (refine wpList_store_rowTo rfl 28 (.tmp 4) (.tmp 14) rfl rfl w2.heap.size T2.toArray rfl rfl 28 _ (heap_alloc_new w2 _) (by rw [HI2.out]; simp) (by simp [HZL.out]) HO2.out ?_; rw [World.setRow_alloc_new]))
      go_ret
      exact SaysB.of HG.out.symm (HB2.out.alloc HB2.out.size _)
    · go_upto_region 4 with (first
        | (go_at_call 18; refine (fit_newB 255 [id] _ _ rfl 1 rfl (by decide) HQ0.out).mono ?_; rintro e w2 ⟨rfl, rfl⟩)
        | (refine wpList_load_mid rfl 28 (.tmp 1) rfl bx 0 rfl cs _ (blkR (HKB.out _)) Try.underlying28 rfl HI.out ?_)
        | (go_at_call 19; refine (HS.out _ (HBL.out.alloc HBL.out.size _)).mono ?_; rintro e w2 ⟨rfl, hb2⟩; have HB2 := Lib.hid ((HBL.out.alloc HBL.out.size (.cells #[.int .i64 id] 3)).trans (hb2.mono (HBL.out.alloc HBL.out.size _).size)); clear hb2)
        | (refine wpList_allocToS rfl 28 rfl (some 4) rfl w2.heap.size rfl (.agg Z.toArray) HZ.out ?_; rw [show (Value.agg Z.toArray).cells = Z.toArray from rfl])
        | (refine wpList_store_rowTo rfl 28 (.tmp 4) (.tmp 14) rfl rfl w2.heap.size T2.toArray rfl rfl 28 _ (heap_alloc_new w2 _) (by rw [HI2.out]; simp) (by simp [HZL.out]) HO2.out ?_; rw [World.setRow_alloc_new]))
      have HK2 := Lib.hid (Blk.new w2 28 T2)
      have HB3 : Hid (Below w.heap.size w (w2.alloc (.cells T2.toArray 28))) := Lib.hid (HB2.out.alloc HB2.out.size _)
      have HV3 := Lib.hid (HT2.out.below HB3.out)
      go_wp2_with (first
        | (refine wpList_load_mid rfl 28 (.tmp 4) rfl w2.heap.size 0 rfl T2 _ (blkR HK2.out) Try.underlying28 rfl HI2.out ?_)
        | (go_at_call 20; refine (empty_any T2 X _ HV3.out).mono ?_; rintro e w3 ⟨rfl, hb3⟩; have HB4 := Lib.hid hb3; clear hb3))
      go_ret
      exact SaysB.of HG.out.symm (HB3.out.trans (HB4.out.mono HB3.out.size))
end Go.Proofs.Ytokidpajialgbaa
