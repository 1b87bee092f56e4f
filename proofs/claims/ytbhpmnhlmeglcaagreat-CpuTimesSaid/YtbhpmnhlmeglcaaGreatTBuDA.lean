/- cpu: the works of djnz. -/
import Derived.Test.YtbhpmnhlmeglcaaGreatTBuZ
import Derived.StillTailTactics
namespace Go.Proofs.YtbhpmnhlmeglcaaGreat
set_option linter.unusedSimpArgs false
set_option linter.unusedVariables false
open Go.RowKit
/-- a word and a byte with a sign -/
def plusV (x d : Int) : Int := (x + (if d < 128 then d else d - 256)) % 65536
theorem plus_b16 (x d : Int) : B16 (plusV x d) := ⟨by unfold plusV; omega, by unfold plusV; omega⟩
theorem sign8 : ∀ n < 256, IntKind.u16.wrap (IntKind.i16.wrap (IntKind.i8.wrap ((n : Nat) : Int))) = if n < 128 then ((n : Nat) : Int) else ((n : Nat) : Int) + 65280 := by decide +kernel
theorem plus_eq (x d : Int) (hd : B8 d) : IntKind.u16.wrap (x + IntKind.u16.wrap (IntKind.i16.wrap (IntKind.i8.wrap d))) = plusV x d := by
  obtain ⟨d0, d1⟩ := hd
  obtain ⟨n, rfl⟩ := Int.eq_ofNat_of_zero_le d0
  rw [sign8 n (by omega), IntKind.wrap_u16]
  unfold plusV
  split <;> split <;> omega
theorem ret_u16 {a b : Int} (h : a = b) : Ending.returned (.int .u16 a) = .returned (.int .u16 b) := by rw [h]
theorem plus_any (x d : Int) (w : World) (hx : B16 x) (hd : B8 d) : Calls Tryz.prog 64 #[.int .u16 x, .int .u8 d] w fun e w' => e = .returned (.int .u16 (plusV x d)) ∧ w = w' := by
  have HV := Lib.hid (plus_eq x d hd)
  obtain ⟨x0, x1⟩ := hx; obtain ⟨d0, d1⟩ := hd
  go_enter Tryz.func64, Tryz.ntmps64
  go_wp2
  go_ret
  exact ⟨ret_u16 HV.out, rfl⟩
set_option maxRecDepth 100000 in
set_option maxHeartbeats 4000000 in
theorem first_decB (g : Nat) (sv : Value) (c : Cp) (w : World) (h : CpAt w g sv c) (ho : c.Ok) :
    Calls Tryz.prog 45 #[.pointer (some ⟨g, 0, none⟩), .int .i64 1] w (Done (.tuple #[]) g w sv { c with r := { c.r with b := (c.r.b - 1) % 256 } }) := by
  have H := Lib.hid h; have HB := Lib.hid h.blk
  have e2 : w.cell? ⟨g, 2, none⟩ = some (.int .u8 c.r.b) := h.blk.cell 2
  have y2 := h.blk.frozen 2
  obtain ⟨b0, b1⟩ := ho.r.b
  clear h ho
  go_enter Tryz.func45, Tryz.ntmps45
  go_wp2
  exact bodyPost_end (results_none rfl _ _ _) rfl ⟨rfl, H.out.only (Only.set g 2 w _) (HB.out.set_ 2 _) rfl⟩
def Cp.jr (c : Cp) : Cp := { c with r := { c.r with pc := plusV c.r.pc c.lo, wz := plusV c.r.pc c.lo } }
set_option maxRecDepth 100000 in
set_option maxHeartbeats 4000000 in
theorem first_jr (g : Nat) (sv : Value) (c : Cp) (w : World) (h : CpAt w g sv c) (ho : c.Ok) :
    Calls Tryz.prog 45 #[.pointer (some ⟨g, 0, none⟩), .int .i64 2] w (Done (.tuple #[]) g w sv c.jr) := by
  have H := Lib.hid h; have HB := Lib.hid h.blk
  have HP := Lib.hid (fun w => plus_any c.r.pc c.lo w ho.r.pc ho.lo)
  unfold Cp.jr
  generalize plusV c.r.pc c.lo = v at HP ⊢
  have e22 : w.cell? ⟨g, 22, none⟩ = some (.int .u16 c.r.pc) := h.blk.cell 22
  have e23 : w.cell? ⟨g, 23, none⟩ = some (.int .u16 c.r.wz) := h.blk.cell 23
  have e36 : w.cell? ⟨g, 36, none⟩ = some (.int .u8 c.lo) := h.blk.cell 36
  have y22 := h.blk.frozen 22
  have y23 := h.blk.frozen 23
  clear h ho
  go_enter Tryz.func45, Tryz.ntmps45
  go_upto_region 8 with fail
  refine wp_region_still_tail 10 (by kernel_rfl) (by kernel_rfl) ?_
  simp only [List.take_succ_cons, List.take_zero, List.drop_succ_cons, List.drop_zero]
  repeat (first | still_step | still_call (same_swap (HP.out _)))
  refine wpStill_nil ?_
  change wpList _ _ _ _ _ w.drew
  obtain ⟨u, hu⟩ : ∃ u, u = w.drew := ⟨_, rfl⟩
  rw [← hu]
  have HO : Hid (Only g w u) := Lib.hid (Drew.only ⟨1, hu⟩)
  have HB2 : Hid (Blk u g 46 (c.cells sv)) := Lib.hid (hd_blk ⟨1, hu⟩ HB.out)
  have k22 : u.cell? ⟨g, 22, none⟩ = some (.int .u16 c.r.pc) := HB2.out.cell 22
  have k23 : u.cell? ⟨g, 23, none⟩ = some (.int .u16 c.r.wz) := HB2.out.cell 23
  have z22 := HB2.out.frozen 22
  have z23 := HB2.out.frozen 23
  clear hu e22 e23 e36 y22 y23
  go_wp2
  exact bodyPost_end (results_none rfl _ _ _) rfl ⟨rfl, H.out.only ((HO.out.trans (Only.set g 22 u _)).trans (Only.set g 23 _ _)) ((HB2.out.set_ 22 _).set_ 23 _) rfl⟩
theorem workOk_decB (c : Cp) (ho : c.Ok) : WorkOk 1 c { c with r := { c.r with b := (c.r.b - 1) % 256 } } :=
  ⟨⟨{ ho.r with b := b8_mod _ }, ho.code, ho.lo, ho.hi, ho.ea, ho.out, ho.addr, ho.at0, ho.at1, ho.len⟩, fun g sv w h => work_first 1 g sv c _ w (by decide) (first_decB g sv c w h ho)⟩
theorem workOk_jr (c : Cp) (ho : c.Ok) : WorkOk 2 c c.jr :=
  ⟨⟨{ ho.r with pc := plus_b16 _ _, wz := plus_b16 _ _ }, ho.code, ho.lo, ho.hi, ho.ea, ho.out, ho.addr, ho.at0, ho.at1, ho.len⟩, fun g sv w h => work_first 2 g sv c _ w (by decide) (first_jr g sv c w h ho)⟩
theorem workIs_decB (code ix : Int) (k : Co) : WorkIs 1 code ix k { k with r := { k.r with b := (k.r.b - 1) % 256 } } := fun c l ho h =>
  ⟨_, workOk_decB c ho, ⟨by simp only [h.r], h.lo, h.hi, h.ea, h.wrote, h.code, h.ix, h.second, h.ahead, h.nmi, h.held, h.t0, h.n0, h.pos⟩⟩
theorem workIs_jr (code ix : Int) (k : Co) : WorkIs 2 code ix k { k with r := { k.r with pc := plusV k.r.pc k.lo, wz := plusV k.r.pc k.lo } } := fun c l ho h =>
  ⟨_, workOk_jr c ho, ⟨by simp only [Cp.jr, h.r, h.lo], h.lo, h.hi, h.ea, h.wrote, h.code, h.ix, h.second, h.ahead, h.nmi, h.held, h.t0, h.n0, h.pos⟩⟩
theorem workIs_nn (code ix : Int) (k : Co) : WorkIs 8 code ix k { k with r := { k.r with wz := k.hi * 256 + k.lo } } := fun c l ho h =>
  ⟨_, workOk_nn c ho, ⟨by simp only [Cp.nn, Cp.wordV, h.r, h.lo, h.hi], h.lo, h.hi, h.ea, h.wrote, h.code, h.ix, h.second, h.ahead, h.nmi, h.held, h.t0, h.n0, h.pos⟩⟩
theorem workIs_jpWz (code ix : Int) (k : Co) : WorkIs 29 code ix k { k with r := { k.r with pc := k.r.wz } } := fun c l ho h =>
  ⟨_, workOk_jpWz c ho, ⟨by simp only [Cp.jpWz, h.r], h.lo, h.hi, h.ea, h.wrote, h.code, h.ix, h.second, h.ahead, h.nmi, h.held, h.t0, h.n0, h.pos⟩⟩
theorem workIs_ldReg (code ix : Int) (k : Co) : WorkIs 17 code ix k { k with r := k.r.putByte (code / 8 % 8) (if Mi.memS code then 0 else ix) k.lo } := fun c l ho h =>
  ⟨_, workOk_ldReg c ho, ⟨by simp only [Cp.ldReg, Cp.plainV, h.r, h.lo, h.code, h.ix], h.lo, h.hi, h.ea, h.wrote, h.code, h.ix, h.second, h.ahead, h.nmi, h.held, h.t0, h.n0, h.pos⟩⟩
end Go.Proofs.YtbhpmnhlmeglcaaGreat
