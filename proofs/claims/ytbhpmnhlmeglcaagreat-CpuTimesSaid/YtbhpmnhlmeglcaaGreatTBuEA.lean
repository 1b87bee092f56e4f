/- cpu: works of plain codes: what is moved. -/
import Derived.Test.YtbhpmnhlmeglcaaGreatTBuDA
import Derived.Test.YtbhpmnhlmeglcaaGreatTBuCA
import Derived.Test.YtbhpmnhlmeglcaaGreatTReg
import Derived.StillTailTactics
namespace Go.Proofs.YtbhpmnhlmeglcaaGreat
set_option linter.unusedSimpArgs false
set_option linter.unusedVariables false
open Go.RowKit
/-- other registers: between two steps -/
theorem Cp.Is0.withR {c : Cp} {code ix : Int} {l : List Stp} {k : Co} (h : c.Is0 code ix l k) (r : Rg) : (c.withR r).Is0 code ix l { k with r := r } := ⟨rfl, h.lo, h.hi, h.ea, h.wrote, h.code, h.ix, h.second, h.ahead, h.nmi, h.held, h.t0, h.n0, h.pos⟩
/-- a work that makes other registers -/
theorem workOk_r (k : Int) (hk : 0 ≤ k ∧ k ≤ 31) (c : Cp) (ho : c.Ok) (r : Rg) (hr : r.Ok) (h : ∀ g, Does 45 #[.pointer (some ⟨g, 0, none⟩), .int .i64 k] g c (c.withR r)) : WorkOk k c (c.withR r) :=
  ⟨ok_withR ho hr, fun g sv w hat => work_first k g sv c _ w hk (h g w sv hat)⟩
def FirstTo (k : Int) (g : Nat) (c d : Cp) : Prop := Does 45 #[.pointer (some ⟨g, 0, none⟩), .int .i64 k] g c d
def Rg.exAf (r : Rg) : Rg := { r with a := r.a2, a2 := r.a, f := r.f2, f2 := r.f }
def Rg.exx (r : Rg) : Rg := { r with b := r.b2, b2 := r.b, c := r.c2, c2 := r.c, d := r.d2, d2 := r.d, e := r.e2, e2 := r.e, h := r.h2, h2 := r.h, l := r.l2, l2 := r.l }
set_option maxRecDepth 100000 in
set_option maxHeartbeats 4000000 in
theorem first_exAf (g : Nat) (c : Cp) : FirstTo 0 g c (c.withR c.r.exAf) := by
  intro w sv h
  have H := Lib.hid h; have HB := Lib.hid h.blk
  clear h
  go_enter Tryz.func45, Tryz.ntmps45
  go_wp2_with (first
    | (go_at_call 63; refine (exAf_any c.r 46 (c.tail sv) g _ HB.out).mono ?_; rintro e w1 ⟨rfl, h1, h2⟩; have H1 := Lib.hid h1; have H2 := Lib.hid h2; clear h1 h2))
  exact bodyPost_end (results_none rfl _ _ _) rfl ⟨rfl, H.out.only H2.out H1.out rfl⟩
set_option maxRecDepth 100000 in
set_option maxHeartbeats 4000000 in
theorem first_exx (g : Nat) (c : Cp) : FirstTo 26 g c (c.withR c.r.exx) := by
  intro w sv h
  have H := Lib.hid h; have HB := Lib.hid h.blk
  clear h
  go_enter Tryz.func45, Tryz.ntmps45
  go_wp2_with (first
    | (go_at_call 72; refine (exx_any c.r 46 (c.tail sv) g _ HB.out).mono ?_; rintro e w1 ⟨rfl, h1, h2⟩; have H1 := Lib.hid h1; have H2 := Lib.hid h2; clear h1 h2))
  exact bodyPost_end (results_none rfl _ _ _) rfl ⟨rfl, H.out.only H2.out H1.out rfl⟩
set_option maxRecDepth 100000 in
set_option maxHeartbeats 4000000 in
theorem first_wzNext (g : Nat) (c : Cp) : FirstTo 6 g c (c.withR { c.r with wz := (c.r.wz + 1) % 65536 }) := by
  intro w sv h
  have H := Lib.hid h; have HB := Lib.hid h.blk
  have e23 : w.cell? ⟨g, 23, none⟩ = some (.int .u16 c.r.wz) := h.blk.cell 23
  have y23 := h.blk.frozen 23
  have hw : IntKind.u16.wrap (c.r.wz + 1) = (c.r.wz + 1) % 65536 := IntKind.wrap_u16 _
  clear h
  go_enter Tryz.func45, Tryz.ntmps45
  go_wp2
  exact bodyPost_end (results_none rfl _ _ _) rfl ⟨rfl, H.out.only (Only.set g 23 w _) (HB.out.set_ 23 _) rfl⟩
set_option maxRecDepth 100000 in
set_option maxHeartbeats 4000000 in
theorem first_ldA (g : Nat) (c : Cp) : FirstTo 9 g c (c.withR { c.r with a := c.lo }) := by
  intro w sv h
  have H := Lib.hid h; have HB := Lib.hid h.blk
  have e0 : w.cell? ⟨g, 0, none⟩ = some (.int .u8 c.r.a) := h.blk.cell 0
  have y0 := h.blk.frozen 0
  have e36 : w.cell? ⟨g, 36, none⟩ = some (.int .u8 c.lo) := h.blk.cell 36
  clear h
  go_enter Tryz.func45, Tryz.ntmps45
  go_wp2
  exact bodyPost_end (results_none rfl _ _ _) rfl ⟨rfl, H.out.only (Only.set g 0 w _) (HB.out.set_ 0 _) rfl⟩
set_option maxRecDepth 100000 in
set_option maxHeartbeats 4000000 in
theorem first_wzA (g : Nat) (c : Cp) (ho : c.Ok) : FirstTo 5 g c (c.withR { c.r with wz := c.r.a * 256 + c.r.wz % 256 }) := by
  intro w sv h
  have H := Lib.hid h; have HB := Lib.hid h.blk
  have HL := Lib.hid (fun w => wideLo_any c.r.wz w ho.r.wz)
  have HW := Lib.hid (fun w => wideOf_any c.r.a (c.r.wz % 256) w ho.r.a ⟨by omega, by omega⟩)
  generalize c.r.wz % 256 = lo at HL HW ⊢
  generalize c.r.a * 256 + lo = v at HW ⊢
  have e0 : w.cell? ⟨g, 0, none⟩ = some (.int .u8 c.r.a) := h.blk.cell 0
  have e23 : w.cell? ⟨g, 23, none⟩ = some (.int .u16 c.r.wz) := h.blk.cell 23
  clear h ho
  go_enter Tryz.func45, Tryz.ntmps45
  go_upto_region 19 with fail
  refine wp_region_still_tail 11 (by kernel_rfl) (by kernel_rfl) ?_
  simp only [List.take_succ_cons, List.take_zero, List.drop_succ_cons, List.drop_zero]
  repeat (first | still_step | (go_at_call 70; still_call (same_swap (HL.out _))) | still_call (same_swap (HW.out _)) | still_call (same_swap (HL.out _)))
  refine wpStill_nil ?_
  change wpList _ _ _ _ _ w.drew
  obtain ⟨u, hu⟩ : ∃ u, u = w.drew := ⟨_, rfl⟩
  rw [← hu]
  have HO : Hid (Only g w u) := Lib.hid (Drew.only ⟨1, hu⟩)
  have HB2 : Hid (Blk u g 46 (c.cells sv)) := Lib.hid (hd_blk ⟨1, hu⟩ HB.out)
  have k23 : u.cell? ⟨g, 23, none⟩ = some (.int .u16 c.r.wz) := HB2.out.cell 23
  have z23 := HB2.out.frozen 23
  clear hu e0 e23
  go_wp2
  exact bodyPost_end (results_none rfl _ _ _) rfl ⟨rfl, H.out.only (HO.out.trans (Only.set g 23 u _)) (HB2.out.set_ 23 _) rfl⟩
set_option maxRecDepth 100000 in
set_option maxHeartbeats 4000000 in
theorem first_portA (g : Nat) (c : Cp) (ho : c.Ok) : FirstTo 30 g c (c.withR { c.r with wz := c.r.a * 256 + c.lo }) := by
  intro w sv h
  have H := Lib.hid h; have HB := Lib.hid h.blk
  have HW := Lib.hid (fun w => wideOf_any c.r.a c.lo w ho.r.a ho.lo)
  generalize c.r.a * 256 + c.lo = v at HW ⊢
  have e0 : w.cell? ⟨g, 0, none⟩ = some (.int .u8 c.r.a) := h.blk.cell 0
  have e36 : w.cell? ⟨g, 36, none⟩ = some (.int .u8 c.lo) := h.blk.cell 36
  clear h ho
  go_enter Tryz.func45, Tryz.ntmps45
  go_upto_region 51 with fail
  refine wp_region_still_tail 10 (by kernel_rfl) (by kernel_rfl) ?_
  simp only [List.take_succ_cons, List.take_zero, List.drop_succ_cons, List.drop_zero]
  repeat (first | still_step | still_call (same_swap (HW.out _)))
  refine wpStill_nil ?_
  change wpList _ _ _ _ _ w.drew
  obtain ⟨u, hu⟩ : ∃ u, u = w.drew := ⟨_, rfl⟩
  rw [← hu]
  have HO : Hid (Only g w u) := Lib.hid (Drew.only ⟨1, hu⟩)
  have HB2 : Hid (Blk u g 46 (c.cells sv)) := Lib.hid (hd_blk ⟨1, hu⟩ HB.out)
  have k23 : u.cell? ⟨g, 23, none⟩ = some (.int .u16 c.r.wz) := HB2.out.cell 23
  have z23 := HB2.out.frozen 23
  clear hu e0 e36
  go_wp2
  exact bodyPost_end (results_none rfl _ _ _) rfl ⟨rfl, H.out.only (HO.out.trans (Only.set g 23 u _)) (HB2.out.set_ 23 _) rfl⟩
set_option maxRecDepth 100000 in
set_option maxHeartbeats 4000000 in
theorem first_jpHl (g : Nat) (c : Cp) (ho : c.Ok) : FirstTo 27 g c (c.withR { c.r with pc := c.r.pair 2 c.ix }) := by
  intro w sv h
  have H := Lib.hid h; have HB := Lib.hid h.blk
  have HP := Lib.hid (fun w h => cp_pair g sv c 2 c.ix w h ho)
  generalize c.r.pair 2 c.ix = v at HP ⊢
  have e33 : w.cell? ⟨g, 33, none⟩ = some (.int .i64 c.ix) := h.blk.cell 33
  clear h ho
  go_enter Tryz.func45, Tryz.ntmps45
  go_wp2_with (first
    | (go_at_call 44; refine (HP.out _ H.out).mono ?_; rintro e w1 ⟨rfl, hd1⟩; have H1 := Lib.hid (H.out.drewAt hd1); have HD1 := Lib.hid hd1; have e22 : w1.cell? ⟨g, 22, none⟩ = some (.int .u16 c.r.pc) := H1.out.blk.cell 22; have y22 := H1.out.blk.frozen 22; clear hd1))
  exact bodyPost_end (results_none rfl _ _ _) rfl ⟨rfl, H.out.only ((Drew.only HD1.out).trans (Only.set g 22 w1 _)) (H1.out.blk.set_ 22 _) rfl⟩
set_option maxRecDepth 100000 in
set_option maxHeartbeats 4000000 in
theorem first_ldSp (g : Nat) (c : Cp) (ho : c.Ok) : FirstTo 28 g c (c.withR { c.r with sp := c.r.pair 2 c.ix }) := by
  intro w sv h
  have H := Lib.hid h; have HB := Lib.hid h.blk
  have HP := Lib.hid (fun w h => cp_pair g sv c 2 c.ix w h ho)
  generalize c.r.pair 2 c.ix = v at HP ⊢
  have e33 : w.cell? ⟨g, 33, none⟩ = some (.int .i64 c.ix) := h.blk.cell 33
  clear h ho
  go_enter Tryz.func45, Tryz.ntmps45
  go_wp2_with (first
    | (go_at_call 44; refine (HP.out _ H.out).mono ?_; rintro e w1 ⟨rfl, hd1⟩; have H1 := Lib.hid (H.out.drewAt hd1); have HD1 := Lib.hid hd1; have e21 : w1.cell? ⟨g, 21, none⟩ = some (.int .u16 c.r.sp) := H1.out.blk.cell 21; have y21 := H1.out.blk.frozen 21; clear hd1))
  exact bodyPost_end (results_none rfl _ _ _) rfl ⟨rfl, H.out.only ((Drew.only HD1.out).trans (Only.set g 21 w1 _)) (H1.out.blk.set_ 21 _) rfl⟩
set_option maxRecDepth 100000 in
set_option maxHeartbeats 4000000 in
theorem first_wzPair (g : Nat) (c : Cp) (ho : c.Ok) : FirstTo 7 g c (c.withR { c.r with wz := (c.r.pair (c.code / 16 % 4) 0 + 1) % 65536 }) := by
  intro w sv h
  have H := Lib.hid h; have HB := Lib.hid h.blk
  have HK := Lib.hid (fun w => cpu_p c.code w ho.code)
  generalize c.code / 16 % 4 = p at HK ⊢
  have HP := Lib.hid (fun w h => cp_pair g sv c p 0 w h ho)
  generalize c.r.pair p 0 = v at HP ⊢
  have hw : IntKind.u16.wrap (v + 1) = (v + 1) % 65536 := IntKind.wrap_u16 _
  have e32 : w.cell? ⟨g, 32, none⟩ = some (.int .u8 c.code) := h.blk.cell 32
  clear h ho
  go_enter Tryz.func45, Tryz.ntmps45
  go_wp2_with (first
    | (go_at_call 66; refine (HK.out _).mono ?_; rintro e w1 ⟨rfl, rfl⟩)
    | (go_at_call 44; refine (HP.out _ H.out).mono ?_; rintro e w1 ⟨rfl, hd1⟩; have H1 := Lib.hid (H.out.drewAt hd1); have HD1 := Lib.hid hd1; have e23 : w1.cell? ⟨g, 23, none⟩ = some (.int .u16 c.r.wz) := H1.out.blk.cell 23; have y23 := H1.out.blk.frozen 23; clear hd1))
  exact bodyPost_end (results_none rfl _ _ _) rfl ⟨rfl, H.out.only ((Drew.only HD1.out).trans (Only.set g 23 w1 _)) (H1.out.blk.set_ 23 _) rfl⟩
end Go.Proofs.YtbhpmnhlmeglcaaGreat
