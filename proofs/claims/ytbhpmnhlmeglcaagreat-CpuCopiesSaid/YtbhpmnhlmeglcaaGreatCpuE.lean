/- cpu: a step's cycle begins. -/
import Derived.Test.YtbhpmnhlmeglcaaGreatCpuD
import Derived.Deep.DeepCutAuto
import Derived.BigRegion
namespace Go.Proofs.YtbhpmnhlmeglcaaGreat
set_option linter.unusedSimpArgs false
set_option linter.unusedVariables false
open Go.RowKit
theorem sv_lt {w : World} {g : Nat} {sv : Value} {c : Cp} (h : CpAt w g sv c) {k : Nat} (hk : sv.ownBlock = some k) : k < w.heap.size := (h.own.lt k hk).2
theorem CpAt.alloc {w : World} {g : Nat} {sv : Value} {c : Cp} (h : CpAt w g sv c) (o : Obj) : CpAt (w.alloc o) g sv c := ⟨h.blk.alloc o, h.own.alloc o⟩
theorem new_ne {w : World} {g : Nat} {sv : Value} {c : Cp} (h : CpAt w g sv c) : ¬ CpP g sv w.heap.size := fun hp => by
  rcases hp with hp | hp
  · have := h.blk.lt; omega
  · have := sv_lt h hp; omega
theorem CpTo.alloc {w w' : World} {g : Nat} {sv : Value} {c : Cp} {o : Obj} (h : CpTo g (w.alloc o) sv c w') : CpTo g w sv c w' := by
  obtain ⟨sv', h1, h2, h3⟩ := h
  refine ⟨sv', h1, ?_, ?_⟩
  · rcases h2 with h2 | h2
    · exact .inl h2
    · exact .inr fun b hb => by have := h2 b hb; simp at this; omega
  · have : Ch (CpP g sv) w (w.alloc o) := Below.ch ((Below.refl _ w).alloc (Nat.le_refl _) _)
    exact this.trans h3 (fun _ _ h => h) fun _ _ h => h
theorem CpTo.step {g : Nat} {w w1 w2 : World} {sv sv1 : Value} {c2 : Cp} (h2 : SvTo w sv sv1) (h3 : Ch (CpP g sv) w w1) (k : CpTo g w1 sv1 c2 w2) : CpTo g w sv c2 w2 := by
  obtain ⟨sv2, k1, k2, k3⟩ := k
  exact ⟨sv2, k1, h2.trans k2 h3.size, h3.trans k3 (fun i _ hp => hp) fun i hi hp => h2.place hi hp⟩
theorem Only.cpp {g : Nat} {sv : Value} {w w' : World} (h : Only g w w') : Ch (CpP g sv) w w' := h.ch.mono fun i _ hi => .inl hi
theorem Drew.only {g : Nat} {w w' : World} (h : Drew w w') : Only g w w' := by
  obtain ⟨n, rfl⟩ := h
  exact ⟨rfl, rfl, rfl, rfl, fun _ _ => rfl⟩
theorem CpAt.turn {w w' : World} {g : Nat} {sv : Value} {c c' : Cp} (h : CpAt w g sv c) (ho : Only g w w') (hb : Blk w' g 46 (c'.cells sv)) (hs : c'.steps = c.steps) : CpAt w' g sv c' := by
  refine ⟨hb, ?_⟩
  rw [hs]
  exact own_keepC h.own fun k hk => ho.block k fun e => sv_ne h (by rw [hk, e])
def Cp.told (c : Cp) (w : Int) (p : Bool) : Cp := { c with what := w, port := p }
def Cp.outs (c : Cp) (v : Int) : Cp := { c with out := v }
def Cp.cycle (c : Cp) (s : Stp) : Cp :=
  let d := (c.placeC s.2.1).told s.2.2.1 (s.1 == 3)
  let a := c.placeV s.2.1
  if s.1 = 0 then d.start 4 a s.2.2.2 else if s.1 = 1 then d.start 1 a s.2.2.2 else if s.1 = 2 then (d.outs (d.byteV s.2.2.1)).start 2 a s.2.2.2 else if s.1 = 4 then (d.outs (d.byteV s.2.2.1)).start 3 a s.2.2.2 else d.start 3 a s.2.2.2
theorem b16_mod (x : Int) : B16 (x % 65536) := ⟨by omega, by omega⟩
theorem ok_place {c : Cp} (h : c.Ok) (p : Int) : (c.placeC p).Ok := by
  unfold Cp.placeC
  split
  · exact ⟨{ h.r with pc := b16_mod _ }, h.code, h.lo, h.hi, h.ea, h.out, h.addr, h.at0, h.at1, h.len⟩
  · split
    · exact ⟨{ h.r with sp := b16_mod _ }, h.code, h.lo, h.hi, h.ea, h.out, h.addr, h.at0, h.at1, h.len⟩
    · split
      · exact ⟨{ h.r with sp := b16_mod _ }, h.code, h.lo, h.hi, h.ea, h.out, h.addr, h.at0, h.at1, h.len⟩
      · exact h
theorem ok_told {c : Cp} (h : c.Ok) (w : Int) (p : Bool) : (c.told w p).Ok := ⟨h.r, h.code, h.lo, h.hi, h.ea, h.out, h.addr, h.at0, h.at1, h.len⟩
def byteK (k : Int) : Prop := k = 0 ∨ k = 1 ∨ k = 2 ∨ k = 3 ∨ k = 4 ∨ k = 6 ∨ k = 7 ∨ k = 8 ∨ k = 9 ∨ k = 10 ∨ k = 11 ∨ k = 12 ∨ k = 13
theorem CpAt.to {w w' : World} {g : Nat} {sv : Value} {c : Cp} (h : CpTo g w sv c w') : ∃ sv', CpAt w' g sv' c ∧ SvTo w sv sv' ∧ Ch (CpP g sv) w w' := h
set_option maxRecDepth 100000 in
set_option maxHeartbeats 4000000 in
theorem cp_cycle (g : Nat) (sv : Value) (c : Cp) (kd at_ wh n : Int) (w : World) (h : CpAt w g sv c) (ho : c.Ok) (ha : 0 ≤ at_ ∧ at_ ≤ 9) (hk : 0 ≤ kd ∧ kd ≤ 4) (hb : kd = 2 ∨ kd = 4 → byteK wh) :
    Calls Tryz.prog 42 #[.pointer (some ⟨g, 0, none⟩), .agg #[.int .i64 kd, .int .i64 at_, .int .i64 wh, .int .i64 n]] w (Done (.tuple #[]) g w sv (c.cycle (kd, at_, wh, n))) := by
  have H := Lib.hid h; have HO := Lib.hid ho; have HA := Lib.hid ha; have HBK := Lib.hid hb
  obtain ⟨d, hd⟩ : ∃ d, d = (c.placeC at_).told wh (kd == 3) := ⟨_, rfl⟩
  obtain ⟨a, hda⟩ : ∃ a, a = c.placeV at_ := ⟨_, rfl⟩
  have HE : Hid (c.cycle (kd, at_, wh, n) = if kd = 0 then d.start 4 a n else if kd = 1 then d.start 1 a n else if kd = 2 then (d.outs (d.byteV wh)).start 2 a n else if kd = 4 then (d.outs (d.byteV wh)).start 3 a n else d.start 3 a n) := by show _ = _; rw [hd, hda]; rfl
  have HD := Lib.hid hd; have HDA := Lib.hid hda
  have HOD : Hid d.Ok := by show d.Ok; rw [hd]; exact ok_told (ok_place ho _) _ _
  obtain ⟨R, hR⟩ : ∃ R, R = c.cycle (kd, at_, wh, n) := ⟨_, rfl⟩
  rw [← hR] at HE ⊢
  obtain ⟨w0, hw0⟩ : ∃ w0, w0 = w.alloc (.cells #[.int .i64 kd, .int .i64 at_, .int .i64 wh, .int .i64 n] 65) := ⟨_, rfl⟩
  have HW0 := Lib.hid hw0
  have HB0 : Hid (Blk w0 w.heap.size 65 [.int .i64 kd, .int .i64 at_, .int .i64 wh, .int .i64 n]) := by show Blk _ _ _ _; rw [hw0]; exact Blk.new w _ [_, _, _, _]
  have HA0 : Hid (CpAt w0 g sv c) := by show CpAt _ _ _ _; rw [hw0]; exact h.alloc _
  have HNP := Lib.hid (new_ne h)
  have cc1 : (w.alloc (.cells #[.int .i64 kd, .int .i64 at_, .int .i64 wh, .int .i64 n] 65)).cell? ⟨w.heap.size, 1, none⟩ = some (.int .i64 at_) := by rw [← hw0]; exact HB0.out.cell 1
  clear h ho ha hb hd hda hR hw0
  go_enter Tryz.func42, Tryz.ntmps42
  go_upto_region 2 with (first
    | (go_at_call 52; rw [← HW0.out]; refine (cp_place g sv c at_ _ HA0.out HO.out HA.out).mono ?_; rintro e w1 ⟨rfl, hto⟩; have HTO := Lib.hid hto; clear hto))
  obtain ⟨sv1, hh1, hs1, hc1⟩ := HTO.out
  have HB1 := Lib.hid (hc1.blk HB0.out HNP.out)
  have H1 := Lib.hid hh1; have HS1 := Lib.hid hs1
  have HC1 := Lib.hid hc1
  clear cc1 hs1 hc1
  have b0 : w1.cell? ⟨w.heap.size, 0, none⟩ = some (.int .i64 kd) := HB1.out.cell 0
  have b2 : w1.cell? ⟨w.heap.size, 2, none⟩ = some (.int .i64 wh) := HB1.out.cell 2
  obtain ⟨wh0, hwh0⟩ : ∃ v, w1.cell? ⟨g, 44, none⟩ = some v := ⟨_, hh1.blk.cell 44⟩
  obtain ⟨po0, hpo0⟩ : ∃ v, w1.cell? ⟨g, 43, none⟩ = some v := ⟨_, hh1.blk.cell 43⟩
  have z44 := hh1.blk.frozen 44
  have z43 := hh1.blk.frozen 43
  clear hh1
  go_region
  generalize hw2 : World.drew _ = w2
  have HO12 : Hid (Only g w1 w2) := by show Only _ _ _; rw [← hw2]; exact ((Only.set g 44 w1 _).trans (Only.set g 43 _ _)).drew
  have HSP : Hid (d.steps = (c.placeC at_).steps) := by show _ = _; rw [HD.out]; rfl
  have H2 : Hid (CpAt w2 g sv1 d) := by
    show CpAt _ _ _ _
    refine H1.out.turn HO12.out ?_ HSP.out
    rw [← hw2, HD.out]
    exact ((H1.out.blk.set_ 44 _).set_ 43 _).drew
  have hbg : w.heap.size ≠ g := fun e => HNP.out (.inl e)
  have HB2 : Hid (Blk w2 w.heap.size 65 [.int .i64 kd, .int .i64 at_, .int .i64 wh, .int .i64 n]) := Lib.hid (HO12.out.blk hbg HB1.out)
  clear hw2 b0 b2 hwh0 hpo0 z44 z43
  have b0 : w2.cell? ⟨w.heap.size, 0, none⟩ = some (.int .i64 kd) := HB2.out.cell 0
  have b2 : w2.cell? ⟨w.heap.size, 2, none⟩ = some (.int .i64 wh) := HB2.out.cell 2
  have b3 : w2.cell? ⟨w.heap.size, 3, none⟩ = some (.int .i64 n) := HB2.out.cell 3
  have d39 : w2.cell? ⟨g, 39, none⟩ = some (.int .u8 d.out) := H2.out.blk.cell 39
  have z39 := H2.out.blk.frozen 39
  have HC2 : Hid (Ch (CpP g sv) w0 w2) := Lib.hid (HC1.out.trans (HO12.out.cpp (sv := sv)) (fun _ _ h => h) fun _ _ h => h)
  rw [← HDA.out]
  have hkk : kd = 0 ∨ kd = 1 ∨ kd = 2 ∨ kd = 3 ∨ kd = 4 := by omega
  clear hk
  rcases hkk with rfl | rfl | rfl | rfl | rfl
  all_goals
    simp at HE
    go_wp2_with (first
      | (go_at_call 29; refine (cp_start g sv1 _ _ _ _ _ H3.out).mono ?_; rintro e w5 ⟨rfl, h5⟩; have H5 : Hid (CpTo g w0 sv R w5) := Lib.hid (by rw [HE.out]; exact CpTo.step HS1.out (HC2.out.trans (HO23.out.cpp (sv := sv)) (fun _ _ h => h) fun _ _ h => h) h5); clear h5)
      | (go_at_call 29; refine (cp_start g sv1 d _ _ _ _ H2.out).mono ?_; rintro e w5 ⟨rfl, h5⟩; have H5 : Hid (CpTo g w0 sv R w5) := Lib.hid (by rw [HE.out]; exact CpTo.step HS1.out HC2.out h5); clear h5)
      | (go_at_call 53; refine (cp_byte g sv1 d wh _ H2.out HOD.out (HBK.out (by decide))).mono ?_; rintro e w3 ⟨rfl, hd3⟩
         have HD3 := Lib.hid hd3
         have c39 : w3.cell? ⟨g, 39, none⟩ = some (.int .u8 d.out) := (hd_blk hd3 H2.out.blk).cell 39
         have y39 := (hd_blk hd3 H2.out.blk).frozen 39
         have e3 : w3.cell? ⟨w.heap.size, 3, none⟩ = some (.int .i64 n) := (hd_blk hd3 HB2.out).cell 3
         have HO23 : Hid (Only g w2 (w3.setCell ⟨g, 39, none⟩ (.int .u8 (d.byteV wh)))) := Lib.hid ((Drew.only hd3).trans (Only.set g 39 w3 _))
         have H3 : Hid (CpAt (w3.setCell ⟨g, 39, none⟩ (.int .u8 (d.byteV wh))) g sv1 (d.outs (d.byteV wh))) := Lib.hid (H2.out.turn HO23.out ((hd_blk hd3 H2.out.blk).set_ 39 _) rfl)
         clear hd3))
  all_goals
    have hf := H5.out
    rw [HW0.out] at hf
    exact bodyPost_end (results_none rfl _ _ _) rfl ⟨rfl, hf.alloc⟩
end Go.Proofs.YtbhpmnhlmeglcaaGreat
