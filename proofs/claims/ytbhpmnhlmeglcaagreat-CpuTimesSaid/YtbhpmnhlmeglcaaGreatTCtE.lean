/- CpuTimes: its body. -/
import Derived.Test.YtbhpmnhlmeglcaaGreatTCtB
import Derived.Test.YtbhpmnhlmeglcaaGreatTCtD
import Derived.Test.YtbhpmnhlmeglcaaGreatTBuU
import Derived.Test.YtbhpmnhlmeglcaaGreatTBuQ2
import Derived.Deep.DeepCutAuto
import Derived.Deep.MidRow
namespace Go.Proofs.YtbhpmnhlmeglcaaGreat
set_option linter.unusedSimpArgs false
set_option linter.unusedVariables false
open Go.RowKit
def Fl.ofM (m : List Int) : Fl := ⟨m, 0, false, []⟩
theorem new_restC {r : Rg} (hr : r.Ok) : (r.newC).Rest r := by
  have z8 : B8 0 := ⟨by decide, by decide⟩
  have z16 : B16 0 := ⟨by decide, by decide⟩
  exact ⟨⟨⟨hr, z8, z8, z8, z16, z8, z16, Int.le_refl _, Int.le_refl _, Nat.zero_le _⟩, rfl, rfl, show (0 : Int) ≤ 0 ∧ (0 : Int) ≤ 100 by decide, show (0 : Int) ≤ 0 ∧ (0 : Int) ≤ 100 by decide⟩, rfl, rfl, rfl⟩
theorem fl_ofM (m : List Int) (hm : m.length = 65536) (w : World) : FlAt (w.alloc (.cells (m.map (Value.int .u8) ++ [Value.slice none 0 0, Value.slice none 0 0, Value.int .u64 0, Value.bool false]).toArray 37)) w.heap.size (.slice none 0 0) (Fl.ofM m) :=
  ⟨Blk.new w _ _, hm, ⟨rfl, .inl ⟨rfl, rfl⟩⟩, Nat.zero_le _⟩
theorem zregs : ∃ Z : Value, (Tryz.prog.info? 24).bind (·.zero) = some Z ∧ Z.cells.size = 30 := by
  have h : ((Tryz.prog.info? 24).bind (·.zero)).map (fun z => z.cells.size == 30) = some true := by kernel_rfl
  cases hz : (Tryz.prog.info? 24).bind (·.zero) with
  | none => rw [hz] at h; cases h
  | some z =>
    rw [hz] at h
    have h' : (z.cells.size == 30) = true := by injection h
    exact ⟨z, rfl, by simpa using h'⟩
theorem infoCase : (Tryz.prog.info? 28).map (·.size) = some 37 := by kernel_rfl
def Rg.calm (r : Rg) : Rg := { r with halt := false, hold := false, pre := 0 }
theorem Rg.Ok.calm {r : Rg} (h : r.Ok) : r.calm.Ok := { h with pre := ⟨by show (0 : Int) ≤ 0; decide, by show (0 : Int) ≤ 255; decide⟩ }
theorem CaseIs.range {w : World} {C : List Value} {r : Rg} {n : Nat} (h : CaseIs w C r n) {u : World} {b : Nat} (hb : Blk u b 28 C) : u.rangeAt b 0 r.cells := fun j v hv => by
  rw [Nat.zero_add]
  exact (hb.cell j).trans (h.regs j v hv)
theorem CaseIs.below {w w' : World} {C : List Value} {r : Rg} {n : Nat} (h : CaseIs w C r n) (hb : Below w.heap.size w w') : CaseIs w' C r n := by
  obtain ⟨A, c, l, h1, h2, h3, h4⟩ := h.code
  exact ⟨h.len, h.ok, h.regs, ⟨A, c, l, h1, h2, h3.below hb, h4⟩, h.fill⟩
theorem time_ranN : ∀ n < 256, (0 ≤ Mi.time8 0 false (n : Nat) true ∧ Mi.time8 0 false (n : Nat) true ≤ 100) ∧ (0 ≤ Mi.time8 0 false (n : Nat) false ∧ Mi.time8 0 false (n : Nat) false ≤ 100) := by decide +kernel
theorem time_ran (c : Int) (h : B8 c) : (0 ≤ Mi.time8 0 false c true ∧ Mi.time8 0 false c true ≤ 100) ∧ (0 ≤ Mi.time8 0 false c false ∧ Mi.time8 0 false c false ≤ 100) := by
  obtain ⟨n, rfl⟩ : ∃ n : Nat, c = n := ⟨c.toNat, by have := h.1; omega⟩
  exact time_ranN n (by have := h.2; omega)
theorem regs_one (r : Rg) : r.cells.toArray.all (·.oneCell') = true := by simp [Rg.cells, Value.oneCell']
/-- some truth value -/
def BoolP (w : World) (e : Ending) (w' : World) : Prop := (∃ b : Bool, e = .returned (.bool b)) ∧ Below w.heap.size w w'
set_option maxRecDepth 100000 in
set_option maxHeartbeats 2000000 in
theorem right_any (r : Rg) (w : World) : Calls Tryz.prog 7 #[.agg r.cells.toArray] w (BoolP w) := by
  have e29 : (w.alloc (.cells r.cells.toArray 24)).cell? ⟨w.heap.size, 29, none⟩ = some (.int .u8 r.pre) := (Blk.new w 24 r.cells).cell 29
  have e28 : (w.alloc (.cells r.cells.toArray 24)).cell? ⟨w.heap.size, 28, none⟩ = some (.int .u8 r.im) := (Blk.new w 24 r.cells).cell 28
  generalize r.cells.toArray = RC at e29 e28 ⊢
  generalize r.pre = p at e29
  generalize r.im = q at e28
  by_cases h1 : p ≤ 2
  all_goals
    go_enter Tryz.func7, Tryz.ntmps7
    go_wp2
    go_ret
    exact ⟨⟨_, rfl⟩, (Below.refl _ _).alloc (Nat.le_refl _) _⟩
set_option maxRecDepth 100000 in
set_option maxHeartbeats 8000000 in
theorem cputimes_body (C : List Value) (r : Rg) (n : Nat) (code : Int) (w : World) (h : CaseIs w C r n) (hc : B8 code) :
    Calls Tryz.prog 3 #[.agg C.toArray, .int .u8 code] w fun e w' => e = .returned (.bool true) ∧ Below w.heap.size w w' := by
  obtain ⟨b, hb⟩ : ∃ b, b = w.heap.size := ⟨_, rfl⟩
  obtain ⟨w1, hw1⟩ : ∃ w1, w1 = w.alloc (.cells C.toArray 28) := ⟨_, rfl⟩
  have HB1 : Hid (Blk w1 b 28 C) := by show Blk _ _ _ _; rw [hw1, hb]; exact Blk.new w _ _
  have HL1 : Hid (Below b w w1) := by show Below _ _ _; rw [hw1, hb]; exact (Below.refl _ w).alloc (Nat.le_refl _) _
  have HL1' : Hid (Below w.heap.size w w1) := by show Below _ _ _; rw [← hb]; exact HL1.out
  have HBB := Lib.hid hb; have HW1 := Lib.hid hw1; have HC := Lib.hid h
  have HX1 : Hid (w1.rangeAt b 0 r.cells) := Lib.hid (h.range HB1.out)
  obtain ⟨cs, hcs⟩ : ∃ cs, cs = r.cells := ⟨_, rfl⟩
  rw [← hcs] at HX1
  have HI : Hid ((Tryz.prog.info? 24).map (·.size) = some cs.length) := by show _ = _; rw [infoRegsC, hcs]; rfl
  have HRT : Hid (∀ u, Calls Tryz.prog 7 #[.agg cs.toArray] u (BoolP u)) := by show ∀ u, Calls _ _ _ _ _; rw [hcs]; exact fun u => right_any r u
  have HCS := Lib.hid hcs; have HCC := Lib.hid hc
  obtain ⟨A, c, l, hc30, hln, hints, hl8⟩ := h.code
  have c30 : w1.cell? ⟨b, 30, none⟩ = some (.slice A n c) := (HB1.out.cell 30).trans hc30
  have HC30 := Lib.hid hc30
  clear h hb hw1 hcs hc hc30 hln hints hl8
  go_enter Tryz.func3, Tryz.ntmps3
  go_upto_region 1 with (first
    | (refine Great.wpList_boxTo rfl 28 (.tmp 0) rfl (some 2) rfl b HBB.out.symm C.toArray rfl ?_; rw [← HW1.out]))
  go_cut [34] (fun t wx => ∃ bad : Bool, Hid (t = .bool bad) ∧ Hid (bad = false → n ≤ 100 ∧ code ≠ 203 ∧ code ≠ 221 ∧ code ≠ 237 ∧ code ≠ 253) ∧ Hid (Below w1.heap.size w1 wx))
  case first =>
    as_aux_lemma =>
      have hq : code = 203 ∨ code = 221 ∨ code = 237 ∨ code = 253 ∨ (code ≠ 203 ∧ code ≠ 221 ∧ code ≠ 237 ∧ code ≠ 253) := by omega
      by_cases k1 : (100 : Int) < n
      all_goals
        rcases hq with rfl | rfl | rfl | rfl | ⟨q1, q2, q3, q4⟩
      all_goals
        try have z1 : (code == 203) = false := by simp [q1]
        try have z2 : (code == 221) = false := by simp [q2]
        try have z3 : (code == 237) = false := by simp [q3]
        try have z4 : (code == 253) = false := by simp [q4]
        go_wp2_with (first
          | (refine wpList_load_mid rfl 24 (.tmp 9) rfl b 0 rfl cs _ HX1.out Tryz.underlying24 rfl HI.out ?_)
          | (go_at_call 7; refine (HRT.out _).mono ?_; rintro e wx ⟨⟨rb, rfl⟩, hbx⟩; have HBX := Lib.hid hbx; have c30' : wx.cell? ⟨b, 30, none⟩ = some (.slice A n c) := (hbx.cell (block_lt_of_cell c30)).trans c30; clear hbx; cases rb))
        all_goals go_meet
        all_goals first
          | exact ⟨true, Lib.hid rfl, Lib.hid (fun h => by cases h), HBX⟩
          | exact ⟨false, Lib.hid (congrArg Value.bool (decide_eq_false (by omega))), Lib.hid (fun _ => ⟨by omega, q1, q2, q3, q4⟩), HBX⟩
  case rest =>
    obtain ⟨bad, HT, HG, HBX⟩ := hcut
    have ht := HT.out
    subst ht
    cases bad with
    | true =>
      go_wp2_with (first
        | (go_at_call 8; refine (lives12 _).mono ?_; rintro e w9 ⟨rfl, hb9⟩))
      go_ret
      have h1 := HBX.out; have h2 := HL1.out.size; have h3 := HBX.out.size
      exact ⟨rfl, (HL1'.out.trans (h1.mono h2)).trans (hb9.mono (by have := HBB.out; omega))⟩
    | false =>
      obtain ⟨g0, g1, g2, g3, g4⟩ := HG.out rfl
      have HG1 : Hid (code ≠ 221 ∧ code ≠ 253 ∧ code ≠ 237 ∧ code ≠ 203) := Lib.hid ⟨g2, g4, g3, g1⟩
      have HN := Lib.hid g0
      have HBC : Hid (Blk wc b 28 C) := Lib.hid (HB1.out.below_ HBX.out)
      have HCW : Hid (CaseIs wc C r n) := Lib.hid (HC.out.below (HL1'.out.trans (HBX.out.mono HL1.out.size)))
      have HXC : Hid (wc.rangeAt b 0 cs) := by show World.rangeAt _ _ _ _; rw [HCS.out]; exact HCW.out.range HBC.out
      have HBW : Hid (Below w.heap.size w wc) := Lib.hid (HL1'.out.trans (HBX.out.mono (by have := HL1.out.size; have := HBB.out; omega)))
      have HFI := Lib.hid (filled_any C r n wc HCW.out g0)
      have HCI : Hid ((Tryz.prog.info? 28).map (·.size) = some C.toArray.size) := by show _ = _; rw [infoCase]; simp; exact HCW.out.len.symm
      clear g0 g1 g2 g3 g4 c30
      obtain ⟨ZR, hZR, hZRs⟩ := zregs
      have HZR := Lib.hid hZR; have HZS := Lib.hid hZRs
      have HCL : Hid (cs.length = 30) := by show _ = _; rw [HCS.out]; rfl
      have HCO : Hid (cs.toArray.all (·.oneCell') = true) := by show _ = _; rw [HCS.out]; exact regs_one r
      clear hZR hZRs
      go_upto_region 4 with (first
        | (refine wpList_load_row rfl 28 (.tmp 2) rfl b rfl 28 C.toArray (0, 0) _ HBC.out Tryz.underlying28 rfl HCI.out ?_)
        | (go_at_call 9
           refine HFI.out.mono ?_
           rintro e w4 ⟨m, hml, hma, rfl, hb4⟩
           have HML := Lib.hid hml; have HMA := Lib.hid hma; have HB4 := Lib.hid hb4
           obtain ⟨h, hh⟩ : ∃ h, h = w4.heap.size := ⟨_, rfl⟩
           have HH := Lib.hid hh
           obtain ⟨ZZ, hzz⟩ : ∃ ZZ, ZZ = (m.map (Value.int .u8) ++ [Value.slice none 0 0, Value.slice none 0 0, Value.int .u64 0, Value.bool false]).toArray := ⟨_, rfl⟩
           have hbu := flat_built m hml
           rw [← hzz] at hbu
           have HBU := Lib.hid hbu
           obtain ⟨MS, hms⟩ : ∃ MS, MS = (m.map (Value.int .u8)).toArray := ⟨_, rfl⟩
           rw [← hms]
           rw [← hms] at HBU
           obtain ⟨w5, hw5⟩ : ∃ w5, w5 = w4.alloc (.cells ZZ 37) := ⟨_, rfl⟩
           have HW5 := Lib.hid hw5
           have HF5 : Hid (FlAt w5 h (.slice none 0 0) (Fl.ofM m)) := by show FlAt _ _ _ _; rw [hw5, hh, hzz]; exact fl_ofM m hml w4
           have HB5 : Hid (Below w.heap.size w w5) := by
             show Below _ _ _
             have h1 := HBW.out.trans (hb4.mono HBW.out.size)
             rw [hw5]
             exact h1.alloc h1.size _
           have HX5 : Hid (w5.rangeAt b 0 cs) := by
             show World.rangeAt _ _ _ _
             intro j v hv
             have h1 := HXC.out j v hv
             have h2 := (hb4.cell (block_lt_of_cell h1)).trans h1
             rw [hw5]
             exact (((Below.refl _ w4).alloc (Nat.le_refl _) _).cell (block_lt_of_cell h2)).trans h2
           clear hml hma hb4 hh hzz hbu hms hw5)
        | (refine wpList_buildTo rfl 37 #[(0, .tmp 37)] rfl (some 38) rfl ZZ (Eq.trans (congrArg _ (by simp; exact rfl)) HBU.out) ?_)
        | (refine Great.wpList_boxTo rfl 37 (.tmp 38) rfl (some 39) rfl h HH.out.symm ZZ rfl ?_; rw [← HW5.out]))
      obtain ⟨bR, hbR⟩ : ∃ bR, bR = w5.heap.size := ⟨_, rfl⟩
      have HBR := Lib.hid hbR
      obtain ⟨w6, hw6⟩ : ∃ w6, w6 = w5.alloc (.cells cs.toArray 24) := ⟨_, rfl⟩
      have HW6 := Lib.hid hw6
      have HR6 : Hid (Blk w6 bR 24 cs) := by show Blk _ _ _ _; rw [hw6, hbR]; exact Blk.new w5 _ _
      have HF6 : Hid (FlAt w6 h (.slice none 0 0) (Fl.ofM m)) := by show FlAt _ _ _ _; rw [hw6]; exact HF5.out.ch (p := fun _ => False) (Below.ch ((Below.refl _ w5).alloc (Nat.le_refl _) _)) (fun h => h) (fun _ _ h => h)
      have HB6 : Hid (Below w.heap.size w w6) := by show Below _ _ _; rw [hw6]; exact HB5.out.alloc HB5.out.size _
      have HHR : Hid (h < bR) := by show _ < _; rw [hbR]; exact HF5.out.blk.lt
      have e26 : w6.cell? ⟨bR, 26, none⟩ = some (.bool r.halt) := (HR6.out.cell 26).trans (by rw [HCS.out]; rfl)
      have e27 : w6.cell? ⟨bR, 27, none⟩ = some (.bool r.hold) := (HR6.out.cell 27).trans (by rw [HCS.out]; rfl)
      have e29 : w6.cell? ⟨bR, 29, none⟩ = some (.int .u8 r.pre) := (HR6.out.cell 29).trans (by rw [HCS.out]; rfl)
      have y26 := HR6.out.frozen 26
      have y27 := HR6.out.frozen 27
      have y29 := HR6.out.frozen 29
      clear hbR hw6
      go_upto_region 8 with (first
        | (refine wpList_load_mid rfl 24 (.tmp 40) rfl b 0 rfl cs _ HX5.out Tryz.underlying24 rfl HI.out ?_)
        | (refine wpList_allocTo rfl 24 rfl (some 6) rfl bR HBR.out.symm ZR HZR.out ?_)
        | (refine wpList_store_rowTo rfl 24 (.tmp 6) (.tmp 41) rfl rfl bR cs.toArray rfl rfl 24 _ (by rw [HBR.out]; exact heap_alloc_new w5 _) (by rw [HI.out]; simp) (by rw [HZS.out]; simp; exact HCL.out.symm) HCO.out ?_; rw [HBR.out, World.setRow_alloc_new, ← HW6.out, ← HBR.out]))
      generalize hw7 : World.setCell (World.setCell (World.setCell w6 _ _) _ _) _ _ = w7
      obtain ⟨p0, p1⟩ := HCW.out.ok.pc
      obtain ⟨pn, hpn⟩ : ∃ pn : Nat, r.pc = pn := ⟨r.pc.toNat, by omega⟩
      have HPN := Lib.hid hpn
      have hpl : pn < 65536 := by omega
      obtain ⟨cq, hcq⟩ : ∃ cq, cq = r.calm.cells := ⟨_, rfl⟩
      have HCQ := Lib.hid hcq
      have HR7 : Hid (Blk w7 bR 24 cq) := by
        show Blk _ _ _ _
        have := ((HR6.out.set_ 26 (.bool false)).set_ 27 (.bool false)).set_ 29 (.int .u8 0)
        rw [hw7] at this
        rw [hcq]
        rw [HCS.out] at this
        exact this
      have hO7 : Only bR w6 w7 := by rw [← hw7]; exact ((Only.set bR 26 w6 _).trans (Only.set bR 27 _ _)).trans (Only.set bR 29 _ _)
      have HF7 : Hid (FlAt w7 h (.slice none 0 0) (Fl.ofM m)) := Lib.hid (HF6.out.ch (Only.ch hO7) (by have := HHR.out; omega) (fun _ hk => by cases hk))
      have HB7 : Hid (Below w.heap.size w w7) := Lib.hid (HB6.out.trans ((Only.ch hO7).below' HB6.out.size (fun k _ hk => by rw [hk]; have := HHR.out; have := HH.out; have := HB4.out.size; have := HBW.out.size; omega)))
      have c22 : w7.cell? ⟨bR, 22, none⟩ = some (.int .u16 (pn : Int)) := (HR7.out.cell 22).trans (by rw [HCQ.out, ← hpn]; rfl)
      have hfc := HF7.out.byte pn hpl
      have hfz := HF7.out.blk.frozen pn
      have v0 : IntKind.i64.wrap (pn : Int) = pn := by rw [IntKind.wrap_i64]; omega
      have v1 : (pn : Int) < 65536 := by omega
      generalize (Fl.ofM m).m.getD pn 0 = x0 at hfc
      clear hw7 hcq hpn p0 p1 e26 e27 e29 y26 y27 y29 hO7
      go_region
      generalize hw8 : World.drew _ = w8
      have HF8 : Hid (FlAt w8 h (.slice none 0 0) ((Fl.ofM m).put pn code)) := by
        show FlAt _ _ _ _
        rw [← hw8]
        exact (HF7.out.put pn hpl code).ch (p := fun _ => False) (Drew.ch ⟨1, rfl⟩) (fun h => h) (fun _ _ h => h)
      have hO8 : Only h w7 w8 := by rw [← hw8]; exact (Only.set h pn w7 _).drew
      have HR8 : Hid (Blk w8 bR 24 cq) := Lib.hid ((Only.ch hO8).blk HR7.out (by have := HHR.out; omega))
      have HB8 : Hid (Below w.heap.size w w8) := Lib.hid (HB7.out.trans ((Only.ch hO8).below' HB7.out.size (fun k _ hk => by rw [hk]; have := HH.out; have := HB4.out.size; have := HBW.out.size; omega)))
      have HX8 : Hid (w8.rangeAt bR 0 cq) := Lib.hid (blk_range HR8.out)
      have HIQ : Hid ((Tryz.prog.info? 24).map (·.size) = some cq.length) := by show _ = _; rw [infoRegsC, HCQ.out]; rfl
      have HNW : Hid (∀ u, Calls Tryz.prog 10 #[.agg cq.toArray] u fun e w' => ∃ g sv, e = .returned (.pointer (some ⟨g, 0, none⟩)) ∧ CpAt w' g sv r.calm.newC ∧ (u.heap.size ≤ g) ∧ (∀ b, sv.ownBlock = some b → u.heap.size ≤ b) ∧ Below u.heap.size u w') := by show ∀ u, Calls _ _ _ _ _; rw [HCQ.out]; exact fun u => cp_new r.calm u
      have hrok : r.calm.Ok := HCW.out.ok.calm
      have hmc : ((Fl.ofM m).put pn code).m.getD r.calm.pc.toNat 0 = code := by
        show (m.set pn code).getD r.pc.toNat 0 = code
        have : r.pc.toNat = pn := by rw [HPN.out]; rfl
        rw [this]
        have hlm : pn < m.length := by rw [HML.out]; exact hpl
        simp [List.getD, List.getElem?_set, hlm]
      have hfok : FOk ((Fl.ofM m).put pn code) 0 := ⟨HMA.out.set_ pn code HCC.out, rfl, Nat.le_refl _⟩
      obtain ⟨K, r2, f2, c2, hK, hKT, hrest, hrun, hft⟩ := run_any r.calm.newC r.calm ((Fl.ofM m).put pn code) code (new_restC hrok) rfl rfl hfok hmc HG1.out rfl
      have HK := Lib.hid hK; have HKT := Lib.hid hKT; have HRE := Lib.hid hrest; have HRUN := Lib.hid hrun; have HFT := Lib.hid hft
      have HBH : Hid (w.heap.size ≤ h) := Lib.hid (by have := HH.out; have := HB4.out.size; have := HBW.out.size; omega)
      clear hw8 hrok hmc hfok hK hKT hrest hrun hft hfc hfz c22 v0 v1 hO8
      have HHL : Hid (h < w8.heap.size) := Lib.hid HF8.out.blk.lt
      go_upto_region 11 with (first
        | (refine wpList_load_mid rfl 24 (.tmp 6) rfl bR 0 rfl cq _ HX8.out Tryz.underlying24 rfl HIQ.out ?_)
        | (go_at_call 10
           refine (HNW.out _).mono ?_
           rintro e w9 ⟨g, sv, rfl, h4, h5, h6, h7⟩
           have H4 := Lib.hid h4; have H5 := Lib.hid h5; have H6 := Lib.hid h6; have H7 := Lib.hid h7
           have HF9 : Hid (FlAt w9 h (.slice none 0 0) ((Fl.ofM m).put pn code)) := Lib.hid (HF8.out.ch (p := fun _ => False) (Below.ch h7) (fun h => h) (fun _ _ h => h))
           clear h4 h5 h6 h7)
        | (go_at_call 11
           refine (fl_step g h sv (.slice none 0 0) r.calm.newC c2 ((Fl.ofM m).put pn code) f2 K w9 H4.out HF9.out HRUN.out (Nat.le_trans HK.out (by decide))).mono ?_
           rintro e w10 ⟨rfl, sv2, av2, h8, h9, h10, h11, h12⟩
           have H8 := Lib.hid h8; have H9 := Lib.hid h9; have H12 := Lib.hid h12
           clear h8 h9 h10 h11 h12))
      have HB10 : Hid (Below w.heap.size w w10) := by
        show Below _ _ _
        have h1 : Below w.heap.size w w9 := HB8.out.trans (H7.out.mono HB8.out.size)
        refine h1.trans (H12.out.below' h1.size (fun k _ hk => ?_))
        have hg := H5.out; have hs8 := HB8.out.size
        rcases hk with (hk | hk) | hk | hk
        · omega
        · have := H6.out k hk; omega
        · have := HBH.out; omega
        · cases hk
      have ht10 : w10.cell? ⟨h, 65538, none⟩ = some (.int .u64 (K : Int)) := by rw [← HFT.out]; exact H9.out.tail 2 65538 rfl
      obtain ⟨T1, hT1⟩ : ∃ T1, T1 = Mi.time8 0 false code true := ⟨_, rfl⟩
      obtain ⟨T2, hT2⟩ : ∃ T2, T2 = Mi.time8 0 false code false := ⟨_, rfl⟩
      have hr12 : (0 ≤ T1 ∧ T1 ≤ 100) ∧ (0 ≤ T2 ∧ T2 ≤ 100) := by rw [hT1, hT2]; exact time_ran code HCC.out
      have hkt := HKT.out
      rw [← hT1, ← hT2] at hkt
      have HT1 : Hid (∀ u, Calls Tryz.prog 12 #[.int .i64 0, .bool false, .int .u8 code, .bool true] u fun e w' => e = .returned (.int .i64 T1) ∧ Below u.heap.size u w') := by show ∀ u, Calls _ _ _ _ _; rw [hT1]; exact fun u => time8_any 0 false code true u HCC.out.1 HCC.out.2
      have HT2 : Hid (∀ u, Calls Tryz.prog 12 #[.int .i64 0, .bool false, .int .u8 code, .bool false] u fun e w' => e = .returned (.int .i64 T2) ∧ Below u.heap.size u w') := by show ∀ u, Calls _ _ _ _ _; rw [hT2]; exact fun u => time8_any 0 false code false u HCC.out.1 HCC.out.2
      have v3 : IntKind.u64.wrap (K : Int) = K := by rw [IntKind.wrap_u64]; have := HK.out; omega
      have HDN := Lib.hid (fun u (hu : Below w10.heap.size w10 u) => cp_done g sv2 c2 u (H8.out.below hu))
      have hkd : (c2.kind == -1) = true := by rw [HRE.out.kind]; rfl
      rw [hkd] at HDN
      have hb0 : Below w10.heap.size w10 w10 := Below.refl _ _
      have HRF := Lib.hid hb0
      clear hT1 hT2 hkd hb0
      by_cases hk : (K : Int) = 4 + T1
      · have e1 : IntKind.i64.wrap (4 + T1) = (K : Int) := by rw [IntKind.wrap_i64]; omega
        clear hkt hr12 hk
        go_wp2_with (first
          | (go_at_call_of 12 (Value.bool true); refine (HT1.out _).mono ?_; rintro e wa ⟨rfl, hba⟩; have HRF := Lib.hid (HRF.out.trans (hba.mono HRF.out.size)); have ht10 : wa.cell? ⟨h, 65538, none⟩ = some (.int .u64 (K : Int)) := (hba.cell (block_lt_of_cell ht10)).trans ht10; clear hba)
          | (go_at_call 13; refine (HDN.out _ HRF.out).mono ?_; rintro e wb ⟨rfl, rfl⟩)
          | (go_at_call 8; refine (lives12 _).mono ?_; rintro e wz ⟨rfl, hbz⟩))
        go_ret
        exact ⟨rfl, (HB10.out.trans (HRF.out.mono HB10.out.size)).trans (hbz.mono (Nat.le_trans HB10.out.size HRF.out.size))⟩
      · have hk2 : (K : Int) = 4 + T2 := by omega
        have e1 : IntKind.i64.wrap (4 + T1) = 4 + T1 := by rw [IntKind.wrap_i64]; omega
        obtain ⟨M, hM⟩ : ∃ M, M = 4 + T1 := ⟨_, rfl⟩
        rw [← hM] at e1
        have hkm : ((K : Int) == M) = false := by simp; omega
        have e2 : IntKind.i64.wrap (4 + T2) = (K : Int) := by rw [IntKind.wrap_i64]; omega
        have e0 : IntKind.i64.wrap (4 + T1) = M := by rw [IntKind.wrap_i64]; omega
        clear hkt hr12 hk hk2 hM e1
        go_wp2_with (first
          | (go_at_call_of 12 (Value.bool true); refine (HT1.out _).mono ?_; rintro e wa ⟨rfl, hba⟩; have HRF := Lib.hid (HRF.out.trans (hba.mono HRF.out.size)); have ht10 : wa.cell? ⟨h, 65538, none⟩ = some (.int .u64 (K : Int)) := (hba.cell (block_lt_of_cell ht10)).trans ht10; clear hba)
          | (go_at_call 12; refine (HT2.out _).mono ?_; rintro e wa ⟨rfl, hba⟩; have HRF := Lib.hid (HRF.out.trans (hba.mono HRF.out.size)); have ht10 : wa.cell? ⟨h, 65538, none⟩ = some (.int .u64 (K : Int)) := (hba.cell (block_lt_of_cell ht10)).trans ht10; clear hba)
          | (go_at_call 13; refine (HDN.out _ HRF.out).mono ?_; rintro e wb ⟨rfl, rfl⟩)
          | (go_at_call 8; refine (lives12 _).mono ?_; rintro e wz ⟨rfl, hbz⟩))
        go_ret
        exact ⟨rfl, (HB10.out.trans (HRF.out.mono HB10.out.size)).trans (hbz.mono (Nat.le_trans HB10.out.size HRF.out.size))⟩
end Go.Proofs.YtbhpmnhlmeglcaaGreat
