/- cpu: one T-state, the first of an instruction too. -/
import Derived.Test.YtbhpmnhlmeglcaaGreatBuM
namespace Go.Proofs.YtbhpmnhlmeglcaaGreat
set_option linter.unusedSimpArgs false
set_option linter.unusedVariables false
open Go.RowKit
theorem calm_begun {c : Cp} (h : c.Calm) : c.begun.Calm := ⟨ok_begun h.ok, rfl, h.nmi, ⟨Int.le_refl _, (by show (0 : Int) ≤ 100; decide)⟩, ⟨(by show (0 : Int) ≤ 4; decide), (by show (4 : Int) ≤ 100; decide)⟩⟩
set_option maxRecDepth 100000 in
set_option maxHeartbeats 8000000 in
theorem cp_tick0 (g h : Nat) (sv av : Value) (c c2 : Cp) (f f2 : Fl) (w : World) (hc : CpAt w g sv c) (hf : FlAt w h av f) (hm : c.Calm) (hl : f.line = false) (hk : c.kind = -1) (hn : (c.begun.adv.t ≠ c.begun.adv.n ∧ c2 = c.begun.adv ∧ f2 = f) ∨ (c.begun.adv.t = c.begun.adv.n ∧ FinTo c.begun.adv f c2 f2)) :
    Calls Tryz.prog 16 #[.pointer (some ⟨g, 0, none⟩), busV h] w (DoneS g h w sv av c2 f2) := by
  have hb := hc.blk
  have c42 : w.cell? ⟨g, 42, none⟩ = some (.int .i64 (-1)) := by rw [← hk]; exact hb.cell 42
  have HBG := Lib.hid (cp_begin g h sv av c f w hc hf hm.nmi hl)
  obtain ⟨b, hbb⟩ : ∃ b, b = c.begun := ⟨_, rfl⟩
  have HM : Hid b.Calm := by show b.Calm; rw [hbb]; exact calm_begun hm
  have HK0 : Hid (b.held = false) := by show _ = _; rw [hbb]; rfl
  rw [← hbb] at hn HBG
  have HN := Lib.hid hn
  clear hc hf hm hn hb hk hbb
  unfold busV at HBG ⊢
  go_enter Tryz.func16, Tryz.ntmps16
  go_wp2_with (first
    | (go_at_call 21; refine HBG.out.mono ?_; rintro e w0 ⟨rfl, sv0, av0, h1, h2, h3, h3a, h4⟩
       have H := Lib.hid h1; have HF := Lib.hid h2; have HS0 := Lib.hid h3; have HA0 := Lib.hid h3a; have HC0 := Lib.hid h4
       have HB := Lib.hid h1.blk
       have c42 : w0.cell? ⟨g, 42, none⟩ = some (.int .i64 b.kind) := h1.blk.cell 42
       have c49 : w0.cell? ⟨g, 49, none⟩ = some (.bool false) := by (rw [← HK0.out]; exact h1.blk.cell 49)
       have c45 : w0.cell? ⟨g, 45, none⟩ = some (.int .u16 b.addr) := h1.blk.cell 45
       have c47 : w0.cell? ⟨g, 47, none⟩ = some (.int .i64 b.t) := h1.blk.cell 47
       have c48 : w0.cell? ⟨g, 48, none⟩ = some (.int .i64 b.wait) := h1.blk.cell 48
       have z48 := h1.blk.frozen 48
       clear h1 h2 h3 h3a h4))
  have hna := fun n w => ahead_hold h n w
  have S3 : ∀ v, (w0.drew.setCell ⟨g, 48, none⟩ v).cell? ⟨g, 42, none⟩ = some (.int .i64 b.kind) ∧ (w0.drew.setCell ⟨g, 48, none⟩ v).cell? ⟨g, 45, none⟩ = some (.int .u16 b.addr) ∧ (w0.drew.setCell ⟨g, 48, none⟩ v).cell? ⟨g, 47, none⟩ = some (.int .i64 b.t) := fun v => ⟨(HB.out.drew.set_ 48 v).cell 42, (HB.out.drew.set_ 48 v).cell 45, (HB.out.drew.set_ 48 v).cell 47⟩
  go_region_held3 (fun w' => w'.cell? ⟨g, 42, none⟩ = some (.int .i64 b.kind) ∧ w'.cell? ⟨g, 45, none⟩ = some (.int .u16 b.addr) ∧ w'.cell? ⟨g, 47, none⟩ = some (.int .i64 b.t)) (first | exact ⟨c42, c45, c47⟩ | exact S3 _) (first
    | (go_at_call 173; refine (fl_hold h _ _ _ _).mono ?_; rintro e w1 ⟨rfl, rfl⟩))
  generalize hw1 : World.drew _ = w1
  have HO1 : Hid (Only g w0 w1) := by show Only _ _ _; rw [← hw1]; exact (Only.set g 48 w0 _).drew
  have H1 : Hid (CpAt w1 g sv0 { b with wait := 0 }) := Lib.hid (H.out.turn HO1.out (by rw [← hw1]; exact (HB.out.set_ 48 _).drew) rfl)
  clear hw1 c42 c49 c45 c47 c48 z48 S3 hna HB
  have d42 : w1.cell? ⟨g, 42, none⟩ = some (.int .i64 b.kind) := H1.out.blk.cell 42
  have d48 : w1.cell? ⟨g, 48, none⟩ = some (.int .i64 0) := H1.out.blk.cell 48
  have d49 : w1.cell? ⟨g, 49, none⟩ = some (.bool b.held) := H1.out.blk.cell 49
  have d47 : w1.cell? ⟨g, 47, none⟩ = some (.int .i64 b.t) := H1.out.blk.cell 47
  have d46 : w1.cell? ⟨g, 46, none⟩ = some (.int .i64 b.n) := H1.out.blk.cell 46
  have y47 := H1.out.blk.frozen 47
  have y46 := H1.out.blk.frozen 46
  have y49 := H1.out.blk.frozen 49
  have v1 : IntKind.i64.wrap (b.t + 1) = b.t + 1 := by obtain ⟨a, b⟩ := HM.out.t0; rw [IntKind.wrap_i64]; omega
  have v2 : IntKind.i64.wrap (b.n - 1) = b.n - 1 := by obtain ⟨a, b⟩ := HM.out.n0; rw [IntKind.wrap_i64]; omega
  obtain ⟨d, hd⟩ : ∃ d, d = b.adv := ⟨_, rfl⟩
  have HOD : Hid d.Ok := by show d.Ok; rw [hd]; exact ok_adv HM.out.ok
  rw [← hd] at HN
  have HFIN : Hid (∀ w2, Only g w1 w2 → CpAt w2 g sv0 d → ∀ w3, Only g w2 w3 → CpAt w3 g sv0 d → FlAt w3 h av0 f ∧ (∀ c5 f5 w5, SysTo g h w3 sv0 av0 c5 f5 w5 → SysTo g h w sv av c5 f5 w5)) := Lib.hid (fun w2 h1 h2 w3 h3 h4 => by
    have hall : Only g w0 w3 := (HO1.out.trans h1).trans h3
    refine ⟨HF.out.ch (hall.cpp (sv := sv0)) (fl_ne H.out HF.out) (av_far H.out HF.out), fun c5 f5 w5 h5 => SysTo.trans HS0.out HA0.out HC0.out (SysTo.trans (.inl rfl) (.inl rfl) ?_ h5)⟩
    exact (hall.cpp (sv := sv0)).mono fun _ _ h => .inl h)
  have hk4 : b.kind = 4 ∨ b.kind ≠ 4 := by omega
  rcases hk4 with hk4 | hk4
  · have e4 : (b.kind == 4) = true := by rw [hk4]; rfl
    have hdd : d = { b with wait := 0, held := false, t := 0, n := b.n - 1 } := by rw [hd]; unfold Cp.adv; rw [if_pos hk4]
    clear hd hk4
    go_upto_region 13 with fail
    generalize hw2 : World.setCell (World.setCell (World.setCell (World.setCell (World.setCell w1 _ _) _ _) _ _) _ _) _ _ = w2
    have HO2 : Hid (Only g w1 w2) := by
      show Only _ _ _
      rw [← hw2]
      repeat (with_reducible refine Only.trans ?_ (Only.set g _ _ _))
      exact Only.refl _ _
    have H2 : Hid (CpAt w2 g sv0 d) := Lib.hid (H1.out.turn HO2.out (by rw [← hw2, hdd]; exact ((((H1.out.blk.set_ 49 _).set_ 49 _).set_ 47 _).set_ 46 _).set_ 47 _) (by rw [hdd]))
    have k47 : w2.cell? ⟨g, 47, none⟩ = some (.int .i64 d.t) := H2.out.blk.cell 47
    have k46 : w2.cell? ⟨g, 46, none⟩ = some (.int .i64 d.n) := H2.out.blk.cell 46
    clear hw2 d42 d48 d49 d47 d46 y47 y46 y49 v1 v2 hdd
    go_quiet (fail)
    have HO3 : Hid (Only g w2 (w2.drewN nq)) := Lib.hid (Drew.only ⟨_, rfl⟩)
    have H3 : Hid (CpAt (w2.drewN nq) g sv0 d) := Lib.hid (H2.out.drewAt ⟨_, rfl⟩)
    obtain ⟨hf3, hs3⟩ := HFIN.out w2 HO2.out H2.out _ HO3.out H3.out
    have HF3 := Lib.hid hf3; have HS3 := Lib.hid hs3
    clear hf3 hs3
    rcases HN.out with ⟨hne, hc2, hf2⟩ | ⟨heq, hfin⟩
    · have e5 : (d.t == d.n) = false := by simpa using hne
      have HC2 := Lib.hid hc2; have HF2 := Lib.hid hf2
      clear hne hc2 hf2
      go_wp2
      rw [HC2.out, HF2.out]
      exact bodyPost_end (results_none rfl _ _ _) rfl ⟨rfl, HS3.out _ _ _ ⟨sv0, av0, H3.out, HF3.out, .inl rfl, .inl rfl, Ch.refl _ _⟩⟩
    · have e5 : (d.t == d.n) = true := by rw [heq]; simp
      have HFT := Lib.hid hfin
      clear heq hfin
      go_wp2_with (first
        | (go_at_call 22; refine (cp_finish g h sv0 av0 d c2 f f2 _ H3.out HF3.out HOD.out HFT.out).mono ?_; rintro e w5 ⟨rfl, h5⟩))
      exact bodyPost_end (results_none rfl _ _ _) rfl ⟨rfl, HS3.out _ _ _ h5⟩
  · have e4 : (b.kind == 4) = false := by simpa using hk4
    have hdd : d = { b with wait := 0, held := false, t := b.t + 1 } := by rw [hd]; unfold Cp.adv; rw [if_neg hk4]
    clear hd hk4
    go_upto_region 13 with fail
    generalize hw2 : World.setCell (World.setCell (World.setCell w1 _ _) _ _) _ _ = w2
    have HO2 : Hid (Only g w1 w2) := by
      show Only _ _ _
      rw [← hw2]
      repeat (with_reducible refine Only.trans ?_ (Only.set g _ _ _))
      exact Only.refl _ _
    have H2 : Hid (CpAt w2 g sv0 d) := Lib.hid (H1.out.turn HO2.out (by rw [← hw2, hdd]; exact ((H1.out.blk.set_ 49 _).set_ 49 _).set_ 47 _) (by rw [hdd]))
    have k47 : w2.cell? ⟨g, 47, none⟩ = some (.int .i64 d.t) := H2.out.blk.cell 47
    have k46 : w2.cell? ⟨g, 46, none⟩ = some (.int .i64 d.n) := H2.out.blk.cell 46
    clear hw2 d42 d48 d49 d47 d46 y47 y46 y49 v1 v2 hdd
    go_quiet (fail)
    have HO3 : Hid (Only g w2 (w2.drewN nq)) := Lib.hid (Drew.only ⟨_, rfl⟩)
    have H3 : Hid (CpAt (w2.drewN nq) g sv0 d) := Lib.hid (H2.out.drewAt ⟨_, rfl⟩)
    obtain ⟨hf3, hs3⟩ := HFIN.out w2 HO2.out H2.out _ HO3.out H3.out
    have HF3 := Lib.hid hf3; have HS3 := Lib.hid hs3
    clear hf3 hs3
    rcases HN.out with ⟨hne, hc2, hf2⟩ | ⟨heq, hfin⟩
    · have e5 : (d.t == d.n) = false := by simpa using hne
      have HC2 := Lib.hid hc2; have HF2 := Lib.hid hf2
      clear hne hc2 hf2
      go_wp2
      rw [HC2.out, HF2.out]
      exact bodyPost_end (results_none rfl _ _ _) rfl ⟨rfl, HS3.out _ _ _ ⟨sv0, av0, H3.out, HF3.out, .inl rfl, .inl rfl, Ch.refl _ _⟩⟩
    · have e5 : (d.t == d.n) = true := by rw [heq]; simp
      have HFT := Lib.hid hfin
      clear heq hfin
      go_wp2_with (first
        | (go_at_call 22; refine (cp_finish g h sv0 av0 d c2 f f2 _ H3.out HF3.out HOD.out HFT.out).mono ?_; rintro e w5 ⟨rfl, h5⟩))
      exact bodyPost_end (results_none rfl _ _ _) rfl ⟨rfl, HS3.out _ _ _ h5⟩
theorem cp_tickB (g h : Nat) (sv av : Value) (c c2 : Cp) (f f2 : Fl) (w : World) (hc : CpAt w g sv c) (hf : FlAt w h av f) (hm : c.Calm) (hl : f.line = false) (hn : TickTo c f c2 f2) :
    Calls Tryz.prog 16 #[.pointer (some ⟨g, 0, none⟩), busV h] w (DoneS g h w sv av c2 f2) := by
  unfold TickTo Cp.inn at hn
  by_cases hk : c.kind = -1
  · simp only [if_pos hk] at hn
    exact cp_tick0 g h sv av c c2 f f2 w hc hf hm hl hk hn
  · simp only [if_neg hk] at hn
    exact cp_tick1 g h sv av c c2 f f2 w hc hf hm hl hk hn
end Go.Proofs.YtbhpmnhlmeglcaaGreat
