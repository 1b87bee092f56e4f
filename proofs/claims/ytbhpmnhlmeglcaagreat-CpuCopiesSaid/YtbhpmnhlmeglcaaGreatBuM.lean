/- cpu: one T-state. -/
import Derived.Test.YtbhpmnhlmeglcaaGreatBuL
import Derived.Deep.RegionHeld3
namespace Go.Proofs.YtbhpmnhlmeglcaaGreat
set_option linter.unusedSimpArgs false
set_option linter.unusedVariables false
open Go.RowKit
/-- what comes of a cycle's end -/
inductive FinTo : Cp → Fl → Cp → Fl → Prop
  | fetch (c c1 c2 : Cp) (f : Fl) : c.kind = 0 → FetchTo (f.m.getD c.addr.toNat 0) c c1 → ((c1.kind = -1 ∧ c2 = c1) ∨ (c1.kind ≠ -1 ∧ NextTo c1 c2)) → FinTo c f c2 f
  | read (c c2 : Cp) (f : Fl) : c.kind = 1 → NextTo (c.latch (f.m.getD c.addr.toNat 0)) c2 → FinTo c f c2 f
  | write (c c2 : Cp) (f : Fl) : c.kind = 2 → NextTo c c2 → FinTo c f c2 (f.put c.addr.toNat c.out)
  | inp (c c2 : Cp) (f : Fl) : c.kind = 3 → c.port = true → f.acts.length < 1000000000 → NextTo (c.latch 255) c2 → FinTo c f c2 (f.act false c.addr 255)
  | outp (c c2 : Cp) (f : Fl) : c.kind = 3 → c.port = false → f.acts.length < 1000000000 → NextTo c c2 → FinTo c f c2 (f.act true c.addr c.out)
  | idle (c c2 : Cp) (f : Fl) : c.kind = 4 ∨ c.kind = 5 → NextTo c c2 → FinTo c f c2 f
theorem cp_finish (g h : Nat) (sv av : Value) (c c2 : Cp) (f f2 : Fl) (w : World) (hc : CpAt w g sv c) (hf : FlAt w h av f) (ho : c.Ok) (hn : FinTo c f c2 f2) :
    Calls Tryz.prog 22 #[.pointer (some ⟨g, 0, none⟩), busV h] w (DoneS g h w sv av c2 f2) := by
  cases hn with
  | fetch c1 _ _ hk h1 h2 => exact fin_fetch g h sv av c c1 c2 f w hc hf ho hk h1 h2
  | read _ _ hk h1 => exact fin_read g h sv av c c2 f w hc hf ho hk (.inr trivial) h1
  | write _ _ hk h1 => exact fin_write g h sv av c c2 f w hc hf ho hk h1
  | inp _ _ hk hp hl h1 => exact fin_in g h sv av c c2 f w hc hf hk hp hl h1
  | outp _ _ hk hp hl h1 => exact fin_out g h sv av c c2 f w hc hf hk hp hl h1
  | idle _ _ hk h1 => exact fin_idle g h sv av c c2 f w hc hf hk h1
/-- a T-state of a cycle -/
def Cp.adv (c : Cp) : Cp := if c.kind = 4 then { c with wait := 0, held := false, t := 0, n := c.n - 1 } else { c with wait := 0, held := false, t := c.t + 1 }
/-- a processor that is in a cycle -/
def Cp.inn (c : Cp) : Cp := if c.kind = -1 then c.begun else c
def TickTo (c : Cp) (f : Fl) (c2 : Cp) (f2 : Fl) : Prop := (c.inn.adv.t ≠ c.inn.adv.n ∧ c2 = c.inn.adv ∧ f2 = f) ∨ (c.inn.adv.t = c.inn.adv.n ∧ FinTo c.inn.adv f c2 f2)
/-- between two T-states -/
structure Cp.Calm (c : Cp) : Prop where
  ok : c.Ok
  held : c.held = false
  nmi : c.nmi = false
  t0 : 0 ≤ c.t ∧ c.t ≤ 100
  n0 : 0 ≤ c.n ∧ c.n ≤ 100
theorem ok_begun {c : Cp} (h : c.Ok) : c.begun.Ok := ⟨{ h.r with }, h.code, h.lo, h.hi, h.ea, h.out, h.r.pc, Int.le_refl _, Int.le_refl _, Nat.zero_le _⟩
theorem ok_adv {c : Cp} (h : c.Ok) : c.adv.Ok := by
  unfold Cp.adv
  split
  · exact ⟨h.r, h.code, h.lo, h.hi, h.ea, h.out, h.addr, h.at0, h.at1, h.len⟩
  · exact ⟨h.r, h.code, h.lo, h.hi, h.ea, h.out, h.addr, h.at0, h.at1, h.len⟩
theorem calm_inn {c : Cp} (h : c.Calm) : c.inn.Calm := by
  unfold Cp.inn
  split
  · exact ⟨ok_begun h.ok, rfl, h.nmi, ⟨Int.le_refl _, (by show (0 : Int) ≤ 100; decide)⟩, ⟨(by show (0 : Int) ≤ 4; decide), (by show (4 : Int) ≤ 100; decide)⟩⟩
  · exact h
/-- what a T-state does, once a cycle is begun -/
theorem adv_at {g : Nat} {sv : Value} {c : Cp} {w w' : World} (h : CpAt w g sv c) (ho : Only g w w') (hb : Blk w' g 46 (c.adv.cells sv)) : CpAt w' g sv c.adv := h.turn ho hb (by unfold Cp.adv; split <;> rfl)
set_option maxRecDepth 100000 in
set_option maxHeartbeats 8000000 in
theorem cp_tick1 (g h : Nat) (sv av : Value) (c c2 : Cp) (f f2 : Fl) (w : World) (hc : CpAt w g sv c) (hf : FlAt w h av f) (hm : c.Calm) (hl : f.line = false) (hk : c.kind ≠ -1) (hn : (c.adv.t ≠ c.adv.n ∧ c2 = c.adv ∧ f2 = f) ∨ (c.adv.t = c.adv.n ∧ FinTo c.adv f c2 f2)) :
    Calls Tryz.prog 16 #[.pointer (some ⟨g, 0, none⟩), busV h] w (DoneS g h w sv av c2 f2) := by
  have hb := hc.blk
  have c42 : w.cell? ⟨g, 42, none⟩ = some (.int .i64 c.kind) := hb.cell 42
  have c49 : w.cell? ⟨g, 49, none⟩ = some (.bool c.held) := hb.cell 49
  have c45 : w.cell? ⟨g, 45, none⟩ = some (.int .u16 c.addr) := hb.cell 45
  have c47 : w.cell? ⟨g, 47, none⟩ = some (.int .i64 c.t) := hb.cell 47
  have z48 := hb.frozen 48
  have c48 : w.cell? ⟨g, 48, none⟩ = some (.int .i64 c.wait) := hb.cell 48
  have hk2 : (c.kind == -1) = false := by simpa using hk
  rw [hm.held] at c49
  have H := Lib.hid hc; have HF := Lib.hid hf; have HM := Lib.hid hm; have HN := Lib.hid hn; have HK := Lib.hid hk; have HB := Lib.hid hb
  have hna := fun n w => ahead_hold h n w
  have S3 : ∀ v, (w.drew.setCell ⟨g, 48, none⟩ v).cell? ⟨g, 42, none⟩ = some (.int .i64 c.kind) ∧ (w.drew.setCell ⟨g, 48, none⟩ v).cell? ⟨g, 45, none⟩ = some (.int .u16 c.addr) ∧ (w.drew.setCell ⟨g, 48, none⟩ v).cell? ⟨g, 47, none⟩ = some (.int .i64 c.t) := fun v => ⟨(HB.out.drew.set_ 48 v).cell 42, (HB.out.drew.set_ 48 v).cell 45, (HB.out.drew.set_ 48 v).cell 47⟩
  clear hc hf hm hn hb hk
  unfold busV
  go_enter Tryz.func16, Tryz.ntmps16
  go_wp2_with fail
  go_region_held3 (fun w' => w'.cell? ⟨g, 42, none⟩ = some (.int .i64 c.kind) ∧ w'.cell? ⟨g, 45, none⟩ = some (.int .u16 c.addr) ∧ w'.cell? ⟨g, 47, none⟩ = some (.int .i64 c.t)) (first | exact ⟨c42, c45, c47⟩ | exact S3 _) (first
    | (go_at_call 173; refine (fl_hold h _ _ _ _).mono ?_; rintro e w1 ⟨rfl, rfl⟩))
  generalize hw1 : World.drew _ = w1
  have HO1 : Hid (Only g w w1) := by show Only _ _ _; rw [← hw1]; exact (Only.set g 48 w _).drew
  have H1 : Hid (CpAt w1 g sv { c with wait := 0 }) := Lib.hid (H.out.turn HO1.out (by rw [← hw1]; exact (HB.out.set_ 48 _).drew) rfl)
  clear hw1 c42 c49 c45 c47 c48 z48 S3 hna HB
  have d42 : w1.cell? ⟨g, 42, none⟩ = some (.int .i64 c.kind) := H1.out.blk.cell 42
  have d48 : w1.cell? ⟨g, 48, none⟩ = some (.int .i64 0) := H1.out.blk.cell 48
  have d49 : w1.cell? ⟨g, 49, none⟩ = some (.bool c.held) := H1.out.blk.cell 49
  have d47 : w1.cell? ⟨g, 47, none⟩ = some (.int .i64 c.t) := H1.out.blk.cell 47
  have d46 : w1.cell? ⟨g, 46, none⟩ = some (.int .i64 c.n) := H1.out.blk.cell 46
  have y47 := H1.out.blk.frozen 47
  have y46 := H1.out.blk.frozen 46
  have y49 := H1.out.blk.frozen 49
  have v1 : IntKind.i64.wrap (c.t + 1) = c.t + 1 := by obtain ⟨a, b⟩ := HM.out.t0; rw [IntKind.wrap_i64]; omega
  have v2 : IntKind.i64.wrap (c.n - 1) = c.n - 1 := by obtain ⟨a, b⟩ := HM.out.n0; rw [IntKind.wrap_i64]; omega
  obtain ⟨d, hd⟩ : ∃ d, d = c.adv := ⟨_, rfl⟩
  have HOD : Hid d.Ok := by show d.Ok; rw [hd]; exact ok_adv HM.out.ok
  rw [← hd] at HN
  have HFIN : Hid (∀ w2, Only g w1 w2 → CpAt w2 g sv d → ∀ w3, Only g w2 w3 → CpAt w3 g sv d → FlAt w3 h av f ∧ (∀ c5 f5 w5, SysTo g h w3 sv av c5 f5 w5 → SysTo g h w sv av c5 f5 w5)) := Lib.hid (fun w2 h1 h2 w3 h3 h4 => by
    have hall : Only g w w3 := (HO1.out.trans h1).trans h3
    refine ⟨HF.out.ch (hall.cpp (sv := sv)) (fl_ne H.out HF.out) (av_far H.out HF.out), fun c5 f5 w5 h5 => SysTo.trans (.inl rfl) (.inl rfl) ?_ h5⟩
    exact (hall.cpp (sv := sv)).mono fun _ _ h => .inl h)
  have hk4 : c.kind = 4 ∨ c.kind ≠ 4 := by omega
  rcases hk4 with hk4 | hk4
  · have e4 : (c.kind == 4) = true := by rw [hk4]; rfl
    have hdd : d = { c with wait := 0, held := false, t := 0, n := c.n - 1 } := by rw [hd]; unfold Cp.adv; rw [if_pos hk4]
    clear hd hk4
    go_upto_region 13 with fail
    generalize hw2 : World.setCell (World.setCell (World.setCell (World.setCell (World.setCell w1 _ _) _ _) _ _) _ _) _ _ = w2
    have HO2 : Hid (Only g w1 w2) := by
      show Only _ _ _
      rw [← hw2]
      repeat (with_reducible refine Only.trans ?_ (Only.set g _ _ _))
      exact Only.refl _ _
    have H2 : Hid (CpAt w2 g sv d) := Lib.hid (H1.out.turn HO2.out (by rw [← hw2, hdd]; exact ((((H1.out.blk.set_ 49 _).set_ 49 _).set_ 47 _).set_ 46 _).set_ 47 _) (by rw [hdd]))
    have k47 : w2.cell? ⟨g, 47, none⟩ = some (.int .i64 d.t) := H2.out.blk.cell 47
    have k46 : w2.cell? ⟨g, 46, none⟩ = some (.int .i64 d.n) := H2.out.blk.cell 46
    clear hw2 d42 d48 d49 d47 d46 y47 y46 y49 v1 v2 hdd
    go_quiet (fail)
    have HO3 : Hid (Only g w2 (w2.drewN nq)) := Lib.hid (Drew.only ⟨_, rfl⟩)
    have H3 : Hid (CpAt (w2.drewN nq) g sv d) := Lib.hid (H2.out.drewAt ⟨_, rfl⟩)
    obtain ⟨hf3, hs3⟩ := HFIN.out w2 HO2.out H2.out _ HO3.out H3.out
    have HF3 := Lib.hid hf3; have HS3 := Lib.hid hs3
    clear hf3 hs3
    rcases HN.out with ⟨hne, hc2, hf2⟩ | ⟨heq, hfin⟩
    · have e5 : (d.t == d.n) = false := by simpa using hne
      have HC2 := Lib.hid hc2; have HF2 := Lib.hid hf2
      clear hne hc2 hf2
      go_wp2
      rw [HC2.out, HF2.out]
      exact bodyPost_end (results_none rfl _ _ _) rfl ⟨rfl, HS3.out _ _ _ ⟨sv, av, H3.out, HF3.out, .inl rfl, .inl rfl, Ch.refl _ _⟩⟩
    · have e5 : (d.t == d.n) = true := by rw [heq]; simp
      have HFT := Lib.hid hfin
      clear heq hfin
      go_wp2_with (first
        | (go_at_call 22; refine (cp_finish g h sv av d c2 f f2 _ H3.out HF3.out HOD.out HFT.out).mono ?_; rintro e w5 ⟨rfl, h5⟩))
      exact bodyPost_end (results_none rfl _ _ _) rfl ⟨rfl, HS3.out _ _ _ h5⟩
  · have e4 : (c.kind == 4) = false := by simpa using hk4
    have hdd : d = { c with wait := 0, held := false, t := c.t + 1 } := by rw [hd]; unfold Cp.adv; rw [if_neg hk4]
    clear hd hk4
    go_upto_region 13 with fail
    generalize hw2 : World.setCell (World.setCell (World.setCell w1 _ _) _ _) _ _ = w2
    have HO2 : Hid (Only g w1 w2) := by
      show Only _ _ _
      rw [← hw2]
      repeat (with_reducible refine Only.trans ?_ (Only.set g _ _ _))
      exact Only.refl _ _
    have H2 : Hid (CpAt w2 g sv d) := Lib.hid (H1.out.turn HO2.out (by rw [← hw2, hdd]; exact ((H1.out.blk.set_ 49 _).set_ 49 _).set_ 47 _) (by rw [hdd]))
    have k47 : w2.cell? ⟨g, 47, none⟩ = some (.int .i64 d.t) := H2.out.blk.cell 47
    have k46 : w2.cell? ⟨g, 46, none⟩ = some (.int .i64 d.n) := H2.out.blk.cell 46
    clear hw2 d42 d48 d49 d47 d46 y47 y46 y49 v1 v2 hdd
    go_quiet (fail)
    have HO3 : Hid (Only g w2 (w2.drewN nq)) := Lib.hid (Drew.only ⟨_, rfl⟩)
    have H3 : Hid (CpAt (w2.drewN nq) g sv d) := Lib.hid (H2.out.drewAt ⟨_, rfl⟩)
    obtain ⟨hf3, hs3⟩ := HFIN.out w2 HO2.out H2.out _ HO3.out H3.out
    have HF3 := Lib.hid hf3; have HS3 := Lib.hid hs3
    clear hf3 hs3
    rcases HN.out with ⟨hne, hc2, hf2⟩ | ⟨heq, hfin⟩
    · have e5 : (d.t == d.n) = false := by simpa using hne
      have HC2 := Lib.hid hc2; have HF2 := Lib.hid hf2
      clear hne hc2 hf2
      go_wp2
      rw [HC2.out, HF2.out]
      exact bodyPost_end (results_none rfl _ _ _) rfl ⟨rfl, HS3.out _ _ _ ⟨sv, av, H3.out, HF3.out, .inl rfl, .inl rfl, Ch.refl _ _⟩⟩
    · have e5 : (d.t == d.n) = true := by rw [heq]; simp
      have HFT := Lib.hid hfin
      clear heq hfin
      go_wp2_with (first
        | (go_at_call 22; refine (cp_finish g h sv av d c2 f f2 _ H3.out HF3.out HOD.out HFT.out).mono ?_; rintro e w5 ⟨rfl, h5⟩))
      exact bodyPost_end (results_none rfl _ _ _) rfl ⟨rfl, HS3.out _ _ _ h5⟩
end Go.Proofs.YtbhpmnhlmeglcaaGreat
