/- cpu: works: a register is loaded. -/
import Derived.Test.YtbhpmnhlmeglcaaGreatTBusZ
import Derived.Test.YtbhpmnhlmeglcaaGreatTCpOp
namespace Go.Proofs.YtbhpmnhlmeglcaaGreat
set_option linter.unusedSimpArgs false
set_option linter.unusedVariables false
open Go.RowKit
def Cp.plainV (c : Cp) : Int := if Mi.memS c.code then 0 else c.ix
theorem cp_plain (g : Nat) (sv : Value) (c : Cp) (w : World) (h : CpAt w g sv c) (hk : B8 c.code) : Calls Tryz.prog 113 #[.pointer (some ⟨g, 0, none⟩)] w fun e w' => e = .returned (.int .i64 c.plainV) ∧ w' = w := by
  have hb := h.blk
  have c32 : w.cell? ⟨g, 32, none⟩ = some (.int .u8 c.code) := hb.cell 32
  have c33 : w.cell? ⟨g, 33, none⟩ = some (.int .i64 c.ix) := hb.cell 33
  unfold Cp.plainV
  have HM := Lib.hid (fun w => mem_any c.code w hk.1 hk.2)
  clear h hb
  cases hm : Mi.memS c.code
  all_goals
    rw [hm] at HM
    go_enter Tryz.func113, Tryz.ntmps113
    go_wp2_with (first
      | (go_at_call 138; refine (HM.out _).mono ?_; rintro e w' ⟨rfl, rfl⟩))
    go_ret
    exact ⟨rfl, rfl⟩
set_option maxRecDepth 100000 in
set_option maxHeartbeats 4000000 in
theorem work_counts (k : Int) (g : Nat) (sv : Value) (c c' : Cp) (w : World) (hk : k = 13 ∨ k = 14 ∨ k = 15 ∨ k = 16 ∨ k = 17 ∨ k = 19 ∨ k = 20 ∨ k = 21 ∨ k = 22 ∨ k = 23)
    (h : Calls Tryz.prog 73 #[.pointer (some ⟨g, 0, none⟩), .int .i64 k] w (Done (.tuple #[]) g w sv c')) :
    Calls Tryz.prog 40 #[.pointer (some ⟨g, 0, none⟩), .int .i64 k] w (Done (.tuple #[]) g w sv c') := by
  have HF : Hid (Calls Tryz.prog 45 #[.pointer (some ⟨g, 0, none⟩), .int .i64 k] w (Done (.tuple #[]) g w sv c')) := by
    have H := Lib.hid h
    clear h
    show Calls _ _ _ _ _
    rcases hk with rfl | rfl | rfl | rfl | rfl | rfl | rfl | rfl | rfl | rfl
    all_goals
      go_enter Tryz.func45, Tryz.ntmps45
      go_wp2_with (first
        | (go_at_call 73; refine H.out.mono ?_; rintro e w1 ⟨rfl, h1⟩))
      exact bodyPost_end (results_none rfl _ _ _) rfl ⟨rfl, h1⟩
  have hk2 : k ≤ 31 := by omega
  clear h hk
  go_enter Tryz.func40, Tryz.ntmps40
  go_wp2_with (first
    | (go_at_call 45; refine HF.out.mono ?_; rintro e w1 ⟨rfl, h1⟩))
  exact bodyPost_end (results_none rfl _ _ _) rfl ⟨rfl, h1⟩
def Cp.ldReg (c : Cp) : Cp := { c with r := c.r.putByte (c.code / 8 % 8) c.plainV c.lo }
theorem ok_putByte {r : Rg} (h : r.Ok) (k ix v : Int) (hv : B8 v) : (r.putByte k ix v).Ok := by
  obtain ⟨v0, v1⟩ := hv
  have hx := h.ix; have hy := h.iy
  unfold B16 at hx hy
  have b1 : B16 (v * 256 + r.ix % 256) := ⟨by omega, by omega⟩
  have b2 : B16 (v * 256 + r.iy % 256) := ⟨by omega, by omega⟩
  have b3 : B16 (r.ix / 256 * 256 + v) := ⟨by omega, by omega⟩
  have b4 : B16 (r.iy / 256 * 256 + v) := ⟨by omega, by omega⟩
  have hv : B8 v := ⟨v0, v1⟩
  unfold Rg.putByte
  repeat' split
  all_goals first
    | exact { h with b := hv } | exact { h with c := hv } | exact { h with d := hv } | exact { h with e := hv } | exact { h with h := hv } | exact { h with l := hv } | exact { h with a := hv }
    | exact { h with ix := b1 } | exact { h with iy := b2 } | exact { h with ix := b3 } | exact { h with iy := b4 } | exact h
set_option maxRecDepth 100000 in
set_option maxHeartbeats 4000000 in
theorem counts_ldReg (g : Nat) (sv : Value) (c : Cp) (w : World) (h : CpAt w g sv c) (ho : c.Ok) :
    Calls Tryz.prog 73 #[.pointer (some ⟨g, 0, none⟩), .int .i64 17] w (Done (.tuple #[]) g w sv c.ldReg) := by
  have hb := h.blk
  have c32 : w.cell? ⟨g, 32, none⟩ = some (.int .u8 c.code) := hb.cell 32
  have c36 : w.cell? ⟨g, 36, none⟩ = some (.int .u8 c.lo) := hb.cell 36
  have H := Lib.hid h; have HO := Lib.hid ho; have HB := Lib.hid hb
  have HP := Lib.hid (fun w h => cp_plain g sv c w h ho.code)
  have HPB := Lib.hid (fun w h => putByte_any c.r 46 (c.tail sv) g (c.code / 8 % 8) c.plainV c.lo w h ho.r ho.lo)
  have hk := ho.code
  obtain ⟨P, hP⟩ : ∃ P, P = c.plainV := ⟨_, rfl⟩
  have HPP := Lib.hid hP
  rw [← hP] at HP HPB
  clear h ho hb hP
  go_enter Tryz.func73, Tryz.ntmps73
  go_wp2_with fail
  go_region_held3 (fun w' => w'.cell? ⟨g, 32, none⟩ = some (.int .u8 c.code) ∧ w'.cell? ⟨g, 36, none⟩ = some (.int .u8 c.lo)) (first | exact ⟨c32, c36⟩ | exact S2) (first
    | (go_at_call 49; refine (cpu_y _ _ hk).mono ?_; rintro e w1 ⟨rfl, rfl⟩)
    | (go_at_call 113; refine (HP.out _ ?_).mono ?_; exact H.out.drewAt ⟨1, rfl⟩; rintro e w1 ⟨rfl, rfl⟩)
    | (go_at_call 78; refine (HPB.out _ ?_).mono ?_; exact HB.out.drew; rintro e w2 ⟨rfl, h2, ho2⟩; have S2 : w2.cell? ⟨g, 32, none⟩ = some (.int .u8 c.code) ∧ w2.cell? ⟨g, 36, none⟩ = some (.int .u8 c.lo) := ⟨h2.cell 32, h2.cell 36⟩))
  go_wp2
  refine bodyPost_ret (results_none rfl _ _ _) rfl ⟨rfl, H.out.only ((Drew.only ⟨1, rfl⟩).trans ho2) ?_ rfl⟩
  rw [HPP.out] at h2
  exact h2
theorem workOk_ldReg (c : Cp) (ho : c.Ok) : WorkOk 17 c c.ldReg :=
  ⟨⟨ok_putByte ho.r _ _ _ ho.lo, ho.code, ho.lo, ho.hi, ho.ea, ho.out, ho.addr, ho.at0, ho.at1, ho.len⟩, fun g sv w h => work_counts 17 g sv c _ w (by decide) (counts_ldReg g sv c w h ho)⟩
end Go.Proofs.YtbhpmnhlmeglcaaGreat
