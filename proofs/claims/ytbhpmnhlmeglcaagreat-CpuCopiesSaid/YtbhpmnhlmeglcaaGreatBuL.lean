/- cpu: an instruction begins. -/
import Derived.Test.YtbhpmnhlmeglcaaGreatBuK
namespace Go.Proofs.YtbhpmnhlmeglcaaGreat
set_option linter.unusedSimpArgs false
set_option linter.unusedVariables false
open Go.RowKit
def Cp.fresh (c : Cp) : Cp := { c with steps := [], at_ := 0, second := 0, wrote := false }
def Cp.begun (c : Cp) : Cp := { c.fresh.start 0 c.r.pc 4 with r := { c.r with hold := false } }
set_option maxRecDepth 100000 in
set_option maxHeartbeats 4000000 in
theorem cp_begin (g h : Nat) (sv av : Value) (c : Cp) (f : Fl) (w : World) (hc : CpAt w g sv c) (hf : FlAt w h av f) (hn : c.nmi = false) (hl : f.line = false) :
    Calls Tryz.prog 21 #[.pointer (some ⟨g, 0, none⟩), busV h] w (DoneS g h w sv av c.begun f) := by
  obtain ⟨A, cap, rfl, hA, hle, hm⟩ := own_form hc.own
  have hb := hc.blk
  have c30 : w.cell? ⟨g, 30, none⟩ = some ((.slice A c.steps.length cap)) := hb.cell 30
  have c31 : w.cell? ⟨g, 31, none⟩ = some (.int .i64 c.at_) := hb.cell 31
  have c34 : w.cell? ⟨g, 34, none⟩ = some (.int .i64 c.second) := hb.cell 34
  have c40 : w.cell? ⟨g, 40, none⟩ = some (.bool c.wrote) := hb.cell 40
  have c27 : w.cell? ⟨g, 27, none⟩ = some (.bool c.r.hold) := hb.cell 27
  have z30 := hb.frozen 30
  have z31 := hb.frozen 31
  have z34 := hb.frozen 34
  have z40 := hb.frozen 40
  have z27 := hb.frozen 27
  have hne : (Value.slice A c.steps.length cap).ownBlock ≠ some g := sv_ne hc
  have hnon := own_none hc.own
  have hfn := fl_ne hc hf
  have HAF := Lib.hid (av_far hc hf)
  obtain ⟨n, hn'⟩ : ∃ n, n = c.steps.length := ⟨_, rfl⟩
  rw [← hn'] at c30 hle hne ⊢
  have hmm : n ≤ cap := hle
  have H := Lib.hid hc; have HF := Lib.hid hf; have HNE := Lib.hid hne; have HON := Lib.hid hnon; have HNN := Lib.hid hn'; have HM := Lib.hid hm; have HFN := Lib.hid hfn; have HNM := Lib.hid hn; have HL := Lib.hid hl; have HB := Lib.hid hb
  clear hc hf hne hnon hn' hA hfn hn hl hb
  unfold busV
  go_enter Tryz.func21, Tryz.ntmps21
  go_upto_region 1 with fail
  generalize hw1 : World.setCell (World.setCell (World.setCell (World.setCell w _ _) _ _) _ _) _ _ = w1
  have HO1 : Hid (Only g w w1) := by show Only _ _ _; rw [← hw1]; exact (((Only.set g 30 w _).trans (Only.set g 31 _ _)).trans (Only.set g 34 _ _)).trans (Only.set g 40 _ _)
  have H1 : Hid (CpAt w1 g (.slice A 0 cap) c.fresh) := by
    show CpAt _ _ _ _
    refine ⟨by rw [← hw1]; exact (((HB.out.set_ 30 _).set_ 31 _).set_ 34 _).set_ 40 _, ?_⟩
    exact own_keepC HON.out fun k hk => HO1.out.block k fun e => HNE.out (by rw [ownBlock_zero A n 0 cap, hk, e])
  have HF1 : Hid (FlAt w1 h av f) := Lib.hid (HF.out.ch (HO1.out.cpp (sv := .slice A c.steps.length cap)) HFN.out HAF.out)
  have HSV : Hid (SvTo w (.slice A n cap) (.slice A 0 cap)) := Lib.hid (.inl (ownBlock_zero A 0 n cap))
  clear hw1 c30 c31 c34 c40 c27 z30 z31 z34 z40 z27
  have d41 : w1.cell? ⟨g, 41, none⟩ = some (.bool false) := by rw [← HNM.out]; exact H1.out.blk.cell 41
  have d27 : w1.cell? ⟨g, 27, none⟩ = some (.bool c.r.hold) := H1.out.blk.cell 27
  have d22 : w1.cell? ⟨g, 22, none⟩ = some (.int .u16 c.r.pc) := H1.out.blk.cell 22
  have hnaI := fun n w => ahead_int h n w
  go_wp2_with (first
    | (go_at_call 175; refine (fl_int h av f _ HF1.out).mono ?_; rintro e w2 ⟨rfl, rfl⟩; rw [HL.out])
    | (go_at_call 29; refine (cp_start g _ c.fresh _ _ _ _ H1.out).mono ?_; rintro e w3 ⟨rfl, h3⟩
       obtain ⟨sv3, h4, h5, h6⟩ := h3
       have H4 := Lib.hid h4; have H5 := Lib.hid h5; have H6 := Lib.hid h6
       have e27 : w3.cell? ⟨g, 27, none⟩ = some (.bool c.r.hold) := h4.blk.cell 27
       have y27 := h4.blk.frozen 27
       clear h4 h5 h6))
  have hfin : CpTo g w3 sv3 c.begun (w3.setCell ⟨g, 27, none⟩ (.bool false)) := H4.out.only (Only.set g 27 w3 _) (H4.out.blk.set_ 27 _) rfl
  have hall : CpTo g w (.slice A n cap) c.begun (w3.setCell ⟨g, 27, none⟩ (.bool false)) := CpTo.step HSV.out HO1.out.cpp (CpTo.step H5.out H6.out hfin)
  have hgo : CpAt w g (.slice A n cap) c := by rw [HNN.out]; exact H.out
  exact bodyPost_end (results_none rfl _ _ _) rfl ⟨rfl, CpTo.sys hgo HF.out hall⟩
end Go.Proofs.YtbhpmnhlmeglcaaGreat
