/- cpu: works of plain codes: AddPair. -/
import Derived.Test.YtbhpmnhlmeglcaaGreatTBuEB
import Derived.Test.YtbhpmnhlmeglcaaGreatTBuED
import Derived.Test.YtbhpmnhlmeglcaaGreatTWidB
namespace Go.Proofs.YtbhpmnhlmeglcaaGreat
set_option linter.unusedSimpArgs false
set_option linter.unusedVariables false
open Go.RowKit Go.Sort
theorem drew_below {w w' : World} (h : Drew w w') : Below w.heap.size w w' := by
  have c := Drew.ch (p := fun _ => False) h
  exact ⟨c.os, c.tape, c.output, c.size, fun k hk => c.block k hk (fun h => h)⟩
theorem pair_quiet {W : World} {g : Nat} {sv : Value} {c : Cp} (h : CpAt W g sv c) (ho : c.Ok) (k ix : Int) {d : Nat} {os : Array Obj} : Calls Tryz.prog 44 #[.pointer (some ⟨g, 0, none⟩), .int .i64 k, .int .i64 ix] (grow (redrawn W d) os) fun e w'' => e = .returned (.int .u16 (c.r.pair k ix)) ∧ ∃ p : Regrown, w'' = grow (redrawn W p.d) p.os :=
  Calls.regrown_of ((cp_pair g sv c k ix _ (CpAt.below h (below_regrown W d os)) ho).mono fun e w' ⟨h1, h2⟩ => ⟨h1, drew_below h2⟩)
def Cp.addedR (c : Cp) : Rg := ({ c.r with wz := (c.r.pair 2 c.ix + 1) % 65536 } : Rg).putPair 2 c.ix ((c.r.pair 2 c.ix + c.r.pair (c.code / 16 % 4) c.ix + 0) % 65536)
set_option maxRecDepth 100000 in
set_option maxHeartbeats 4000000 in
theorem first_addPair (g : Nat) (c : Cp) (ho : c.Ok) : FirstTo 4 g c ((c.withR c.addedR).setF (addWF (c.r.pair 2 c.ix) (c.r.pair (c.code / 16 % 4) c.ix) c.r.f)) := by
  intro w sv h
  have H := Lib.hid h
  unfold Cp.addedR
  have HK := Lib.hid (gives_sameL (fun w => cpu_p c.code w ho.code))
  generalize c.code / 16 % 4 = p at HK ⊢
  have HP := Lib.hid (fun w h => cp_pair g sv c 2 c.ix w h ho)
  have HQ := Lib.hid (fun (u : World) (hu : CpAt u g sv c) (d : Nat) (os : Array Obj) => pair_quiet hu ho p c.ix (d := d) (os := os))
  have HA : Hid (Gives 68 #[.int .u16 (c.r.pair 2 c.ix), .int .u16 (c.r.pair p c.ix), .int .u8 c.r.f] (.tuple #[.int .u16 ((c.r.pair 2 c.ix + c.r.pair p c.ix + 0) % 65536), .int .u8 (addWF (c.r.pair 2 c.ix) (c.r.pair p c.ix) c.r.f)])) := Lib.hid (fun w => wideAdd_any _ _ _ w (pair_b16 ho.r 2 c.ix) (pair_b16 ho.r p c.ix))
  have hs : B16 ((c.r.pair 2 c.ix + c.r.pair p c.ix + 0) % 65536) := b16_mod _
  generalize addWF (c.r.pair 2 c.ix) (c.r.pair p c.ix) c.r.f = f at HA ⊢
  generalize (c.r.pair 2 c.ix + c.r.pair p c.ix + 0) % 65536 = s at HA hs ⊢
  generalize c.r.pair p c.ix = b at HA HQ
  generalize c.r.pair 2 c.ix = a at HA HP ⊢
  have HS := Lib.hid hs
  have hw : IntKind.u16.wrap (a + 1) = (a + 1) % 65536 := IntKind.wrap_u16 _
  generalize (a + 1) % 65536 = a1 at hw ⊢
  have e33 : w.cell? ⟨g, 33, none⟩ = some (.int .i64 c.ix) := h.blk.cell 33
  clear h ho hs
  go_enter Tryz.func45, Tryz.ntmps45
  go_upto_region 14 with (first
    | (go_at_call 44; refine (HP.out _ H.out).mono ?_; rintro e u ⟨rfl, hd1⟩; have H1 := Lib.hid (H.out.drewAt hd1); have HD1 := Lib.hid hd1; clear hd1))
  have q32 := quiet_cell (H1.out.blk.cell 32 : u.cell? ⟨g, 32, none⟩ = some (.int .u8 c.code))
  have q33 := quiet_cell (H1.out.blk.cell 33 : u.cell? ⟨g, 33, none⟩ = some (.int .i64 c.ix))
  have q1 := quiet_cell (H1.out.blk.cell 1 : u.cell? ⟨g, 1, none⟩ = some (.int .u8 c.r.f))
  clear e33
  refine wp_region_quiet_below (by kernel_rfl) (by kernel_rfl) ?_
  repeat (quiet_step (first | (go_at_call 66; exact HK.out.q) | (go_at_call 44; exact HQ.out _ H1.out _ _) | (go_at_call 68; exact HA.out.q)))
  refine wpQuiet_nil ?_
  intro v hwq
  have HB2 : Hid (Below u.heap.size u v) := by obtain ⟨p, rfl⟩ := hwq; exact Lib.hid (below_regrown u p.d p.os)
  have H2 := Lib.hid (CpAt.below H1.out HB2.out)
  have e23 : v.cell? ⟨g, 23, none⟩ = some (.int .u16 c.r.wz) := H2.out.blk.cell 23
  have y23 := H2.out.blk.frozen 23
  have e33 : v.cell? ⟨g, 33, none⟩ = some (.int .i64 c.ix) := H2.out.blk.cell 33
  clear hwq q32 q33 q1
  have HOO := Lib.hid (Only.set g 23 v (.int .u16 a1))
  have H3 : Hid (CpAt (v.setCell ⟨g, 23, none⟩ (.int .u16 a1)) g sv (c.withR { c.r with wz := a1 })) := Lib.hid (H2.out.turn HOO.out (H2.out.blk.set_ 23 _) rfl)
  go_wp2_with (first
    | (go_at_call 65; refine (cp_putPair g sv _ 2 c.ix s _ H3.out HS.out).mono ?_; rintro e w4 ⟨rfl, sv4, h4, h5, h6⟩; have H4 := Lib.hid h4; have HS4 := Lib.hid h5; have HC4 := Lib.hid h6; clear h4 h5 h6)
    | (go_at_call 69; refine (cp_set g sv4 _ _ _ H4.out).mono ?_; rintro e w5 ⟨rfl, h7⟩))
  exact bodyPost_end (results_none rfl _ _ _) rfl ⟨rfl, CpTo.step (.inl rfl) (Drew.ch HD1.out) (CpTo.step (.inl rfl) (Below.ch HB2.out) (CpTo.step (.inl rfl) (HOO.out.ch.mono (fun _ _ hk => .inl hk)) (CpTo.step HS4.out HC4.out h7)))⟩
end Go.Proofs.YtbhpmnhlmeglcaaGreat
