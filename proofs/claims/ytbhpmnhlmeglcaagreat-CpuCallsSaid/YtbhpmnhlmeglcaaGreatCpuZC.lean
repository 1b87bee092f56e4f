/- CpuCalls: a call that is made. -/
import Derived.Test.YtbhpmnhlmeglcaaGreatCpuZB
import Derived.Test.YtbhpmnhlmeglcaaGreatCpuW
namespace Go.Proofs.YtbhpmnhlmeglcaaGreat
set_option linter.unusedSimpArgs false
set_option linter.unusedVariables false
open Go.RowKit
/-- registers between two instructions -/
def Rg.rest (r : Rg) : Rg := { r with halt := false, hold := false, pre := 0, q := 0 }
theorem ok_rest {r : Rg} (h : r.Ok) : r.rest.Ok := by
  have z : B8 0 := ⟨by decide, by decide⟩
  exact { h with pre := z, q := z }
theorem wpList_load_g {P : Program} {ops : Array Oper} {rest : List Oper} {op : Oper} {a : Act} {w : World} {Q : Exit → Act → World → Prop} (hw : Region.wanted op (yielded ops a.tmps) = true) (ty : TypeId) (x : Operand) (ho : op.op = .load ty x)
    (b o : Nat) (hx : a.eval x = .pointer (some ⟨b, o, none⟩)) (cs : List Value) (d : TypeDesc) (hc : w.rangeAt b o cs) (hu : P.underlying ty = some d) (hd : d.isRow = true) (hi : (P.info? ty).map (·.size) = some cs.length)
    (h : wpList P ops Q rest (a.put op.dst (.agg cs.toArray)) w) : wpList P ops Q (op :: rest) a w :=
  wpList_step fun K hK => by
    rw [if_pos hw]
    exact wp_load_mid ty x ho b o hx cs d hc hu hd hi (hK _ _ h)
theorem wpList_bin_g {P : Program} {ops : Array Oper} {rest : List Oper} {o : Oper} {a : Act} {w : World} {Q : Exit → Act → World → Prop} (hw : Region.wanted o (yielded ops a.tmps) = true) (op : BinOp) (ty : TypeId) (x y : Operand) (ty' : TypeId) (ho : o.op = .binOp op ty x y ty') (v vx vy : Value) (hx : a.eval x = vx) (hy : a.eval y = vy)
    (hr : (do eqGuard op ty x y vx vy; binOp op ty vx vy : Sem Value).run P w = .ok v w) (h : wpList P ops Q rest (a.put o.dst v) w) : wpList P ops Q (o :: rest) a w :=
  wpList_step fun K hK => by
    rw [if_pos hw]
    unfold Oper.wp execOp
    simp only [ho, hx, hy, Sem.run_bind, Sem.run_pure]
    rw [Sem.run_bind] at hr
    rw [hr]
    exact hK _ _ h
set_option maxRecDepth 100000 in
set_option maxHeartbeats 4000000 in
theorem eqg2_regs (r : Rg) (u : World) : (do eqGuard .eql 24 (.tmp 123) (.tmp 124) (.agg r.cells.toArray) (.agg r.cells.toArray); binOp .eql 24 (.agg r.cells.toArray) (.agg r.cells.toArray) : Sem Value).run Tryz.prog u = .ok (.bool true) u := by
  simp [Rg.cells, go_sem]
theorem fl_stepI (g h : Nat) (sv pv av : Value) (c c2 : Cp) (f f2 : Fl) (K : Nat) (k : Int) (hk : k = K) (w : World) (hc : CpAt w g sv c) (hf : FlAt w h pv av f) (hn : Run K c f c2 f2) (hK : K ≤ 1000000) :
    Calls Tryz.prog 11 #[.pointer (some ⟨h, 0, none⟩), .pointer (some ⟨g, 0, none⟩)] w fun e w' => e = .returned (.int .i64 k) ∧ SysTo g h w sv pv av c2 f2 w' := by
  subst hk
  exact fl_step g h sv pv av c c2 f f2 K w hc hf hn hK
set_option maxRecDepth 100000 in
set_option maxHeartbeats 8000000 in
theorem cpucalls_in (r : Rg) (hr : r.Ok) (a s g : Nat) (hpc : r.pc = a) (hsp : r.sp = s) (ha : 100 ≤ a ∧ a ≤ 30000) (hs : 32000 ≤ s ∧ s ≤ 40000) (hg : 50000 ≤ g ∧ g ≤ 65000) (w : World) : Calls Tryz.prog 4 #[.agg r.cells.toArray, .int .u16 g] w fun e w' => e = .returned (.bool true) ∧ Below w.heap.size w w' := by
  obtain ⟨Z, hZ, hZl⟩ := flat_zero
  have HBu := Lib.hid hZ
  have HZl := Lib.hid hZl
  obtain ⟨P, hP⟩ : ∃ P : Int, P = a := ⟨_, rfl⟩
  obtain ⟨S, hS⟩ : ∃ S : Int, S = s := ⟨_, rfl⟩
  obtain ⟨T, hT⟩ : ∃ T : Int, T = g := ⟨_, rfl⟩
  have v1 : IntKind.i64.wrap P = P := by rw [IntKind.wrap_i64]; omega
  have v2 : IntKind.i64.wrap S = S := by rw [IntKind.wrap_i64]; omega
  have d1 : ¬ P < 100 := by omega
  have d2 : ¬ 30000 < P := by omega
  have d3 : ¬ S < 32000 := by omega
  have d4 : ¬ 40000 < S := by omega
  have d5 : ¬ T < 50000 := by omega
  have d6 : ¬ 65000 < T := by omega
  have c22 : (w.alloc (.cells r.cells.toArray 24)).cell? ⟨w.heap.size, 22, none⟩ = some (.int .u16 P) := by rw [hP, ← hpc]; exact (Blk.new w _ r.cells).cell 22
  have c21 : (w.alloc (.cells r.cells.toArray 24)).cell? ⟨w.heap.size, 21, none⟩ = some (.int .u16 S) := by rw [hS, ← hsp]; exact (Blk.new w _ r.cells).cell 21
  have HP := Lib.hid hP; have HSN := Lib.hid hS; have HT := Lib.hid hT
  rw [← hT]
  have HB0 : Hid (Below w.heap.size w (w.alloc (.cells r.cells.toArray 24))) := Lib.hid ((Below.refl _ w).alloc (Nat.le_refl _) _)
  have HBK : Hid (Blk (w.alloc (.cells r.cells.toArray 24)) w.heap.size 24 r.cells) := Lib.hid (Blk.new w _ r.cells)
  have HS0 : Hid ((w.alloc (.cells r.cells.toArray 24)).heap.size = w.heap.size + 1) := Lib.hid (by simp)
  have HA := Lib.hid ha; have HSS := Lib.hid hs; have HG := Lib.hid hg; have HPC := Lib.hid hpc; have HSP := Lib.hid hsp; have HR := Lib.hid hr
  obtain ⟨C, hC⟩ : ∃ C, C = r.cells.toArray := ⟨_, rfl⟩
  have HC := Lib.hid hC
  rw [← hC] at c22 c21 HB0 HBK HS0 ⊢
  clear hZ hZl ha hs hg hpc hsp hr hC hP hS hT
  go_enter Tryz.func4, Tryz.ntmps4
  go_wp2_with fail
  go_quiet (fail)
  go_upto_region 4 with fail
  clear d1 d2 d3 d4 d5 d6
  have hP := HP.out; have hS := HSN.out; have hT := HT.out
  subst hP; subst hS; subst hT
  have ha := HA.out; have hs := HSS.out; have hg := HG.out
  have v3 : IntKind.i64.wrap (g : Int) = g := by rw [IntKind.wrap_i64]; omega
  have v4 : IntKind.i64.wrap ((a : Int) + 1) = ((a + 1 : Nat) : Int) := by rw [IntKind.wrap_i64]; omega
  have v5 : IntKind.i64.wrap ((a : Int) + 2) = ((a + 2 : Nat) : Int) := by rw [IntKind.wrap_i64]; omega
  have v6 : IntKind.i64.wrap (Int.tmod (g : Int) 256) = ((g % 256 : Nat) : Int) := by rw [IntKind.wrap_i64, Int.tmod_eq_emod_of_nonneg (by omega)]; omega
  have v7 : IntKind.i64.wrap (Int.tdiv (g : Int) 256) = ((g / 256 : Nat) : Int) := by rw [IntKind.wrap_i64, Int.tdiv_eq_ediv_of_nonneg (by omega)]; omega
  have v8 : IntKind.u8.wrap ((g % 256 : Nat) : Int) = ((g % 256 : Nat) : Int) := by rw [IntKind.wrap_u8]; omega
  have v9 : IntKind.u8.wrap ((g / 256 : Nat) : Int) = ((g / 256 : Nat) : Int) := by rw [IntKind.wrap_u8]; omega
  have i0 : (a : Int) < 65536 := by omega
  have i1 : ((a + 1 : Nat) : Int) < 65536 := by omega
  have i2 : ((a + 2 : Nat) : Int) < 65536 := by omega
  have i3 : (g : Int) < 65536 := by omega
  clear ha hs hg
  obtain ⟨wd, hwd⟩ : ∃ wd, wd = (w.alloc (.cells C 24)).drewN nq := ⟨_, rfl⟩
  have HWD := Lib.hid hwd
  rw [← hwd]
  have HB1 : Hid (Below w.heap.size w wd) := by show Below _ _ _; rw [hwd]; exact Below_drewN HB0.out nq
  have HK1 : Hid (Blk wd w.heap.size 24 r.cells) := by show Blk _ _ _ _; rw [hwd]; exact HBK.out.drewN nq
  have HS1 : Hid (wd.heap.size = w.heap.size + 1) := by show _ = _; rw [hwd]; exact HS0.out
  have HF1 := Lib.hid (fl_new Z HZl.out wd)
  clear hwd HWD c22 c21
  obtain ⟨h, hh⟩ : ∃ h, h = wd.heap.size := ⟨_, rfl⟩
  have HH := Lib.hid hh
  obtain ⟨w1, hw1⟩ : ∃ w1, w1 = wd.alloc (.cells Z 37) := ⟨_, rfl⟩
  have HW1 := Lib.hid hw1
  rw [← hw1, ← hh] at HF1
  have HB2 : Hid (Below w.heap.size w w1) := by show Below _ _ _; rw [hw1]; exact HB1.out.alloc (by rw [HS1.out]; exact Nat.le_succ _) _
  have HK2 : Hid (Blk w1 w.heap.size 24 r.cells) := by show Blk _ _ _ _; rw [hw1]; exact HK1.out.alloc _
  have HS2 : Hid (w1.heap.size = h + 1) := by show _ = _; rw [hw1, hh]; simp
  clear hw1 hh
  refine wp_region_list ?_
  refine wpList_buildTo rfl 37 #[] rfl (some 42) rfl Z (Eq.trans (congrArg _ (by simp)) HBu.out) ?_
  refine Great.wpList_boxTo rfl 37 (.tmp 42) rfl (some 43) rfl h HH.out.symm Z rfl ?_
  rw [← HW1.out]
  clear HW1
  have q0 := HF1.out.byte a (by have := HA.out; omega)
  have q1 := HF1.out.byte (a + 1) (by have := HA.out; omega)
  have q2 := HF1.out.byte (a + 2) (by have := HA.out; omega)
  have q3 := HF1.out.byte g (by have := HG.out; omega)
  have z0 := HF1.out.blk.frozen a
  have z1 := HF1.out.blk.frozen (a + 1)
  have z2 := HF1.out.blk.frozen (a + 2)
  have z3 := HF1.out.blk.frozen g
  have n3 : g ≠ a ∧ g ≠ a + 1 ∧ g ≠ a + 2 := by have := HA.out; have := HG.out; omega
  obtain ⟨n3a, n3b, n3c⟩ := n3
  generalize fl0.m.getD a 0 = x0 at q0
  generalize fl0.m.getD (a + 1) 0 = x1 at q1
  generalize fl0.m.getD (a + 2) 0 = x2 at q2
  generalize fl0.m.getD g 0 = x3 at q3
  go_upto_region 9 with fail
  generalize hw2 : World.setCell (World.setCell (World.setCell (World.setCell w1 _ _) _ _) _ _) _ _ = w2
  have HF2 : Hid (FlAt w2 h (.slice none 0 0) (.slice none 0 0) ((((fl0.put a 205).put (a + 1) ((g % 256 : Nat) : Int)).put (a + 2) ((g / 256 : Nat) : Int)).put g 201)) := by
    have ha := HA.out; have hg := HG.out
    show FlAt _ _ _ _ _
    rw [← hw2]
    exact (((HF1.out.put a (by omega) 205).put (a + 1) (by omega) _).put (a + 2) (by omega) _).put g (by omega) 201
  have HO2 : Hid (Only h w1 w2) := by
    show Only _ _ _
    rw [← hw2]
    exact (((Only.set h a w1 _).trans (Only.set h (a + 1) _ _)).trans (Only.set h (a + 2) _ _)).trans (Only.set h g _ _)
  clear hw2 q0 q1 q2 q3 z0 z1 z2 z3 n3a n3b n3c i0 i1 i2 i3 v3 v4 v5 v6 v7 v8 v9
  have HK3 : Hid (Blk w2 w.heap.size 24 r.cells) := Lib.hid (HO2.out.blk (by have := HH.out; have := HS1.out; omega) HK2.out)
  have HB3 : Hid (Below w.heap.size w w2) := Lib.hid (HB2.out.trans ((Only.ch HO2.out).below' (by have := HB2.out.size; exact this) (fun k _ hk => by rw [hk]; have := HH.out; have := HS1.out; omega)))
  obtain ⟨cs, hcs⟩ : ∃ cs, cs = r.cells := ⟨_, rfl⟩
  have HCS := Lib.hid hcs
  have HX3 : Hid (w2.rangeAt w.heap.size 0 cs) := by show World.rangeAt _ _ _ _; rw [hcs]; exact blk_range HK3.out
  have HI : Hid ((Tryz.prog.info? 24).map (·.size) = some cs.length) := by show _ = _; rw [hcs]; exact infoRegsC
  have HSZ : Hid (cs.toArray.size = 30) := by show _ = _; rw [hcs]; rfl
  have HONE : Hid (cs.toArray.all (·.oneCell') = true) := by show _ = _; rw [hcs]; simp [Rg.cells, Value.oneCell']
  obtain ⟨b, hb⟩ : ∃ b, b = w2.heap.size := ⟨_, rfl⟩
  have HBN := Lib.hid hb
  obtain ⟨w3, hw3⟩ : ∃ w3, w3 = w2.alloc (.cells cs.toArray 24) := ⟨_, rfl⟩
  have HW3 := Lib.hid hw3
  have HK4 : Hid (Blk w3 b 24 r.cells) := by show Blk _ _ _ _; rw [hw3, hb, hcs]; exact Blk.new w2 _ r.cells
  have HF3 : Hid (FlAt w3 h (.slice none 0 0) (.slice none 0 0) ((((fl0.put a 205).put (a + 1) ((g % 256 : Nat) : Int)).put (a + 2) ((g / 256 : Nat) : Int)).put g 201)) := by show FlAt _ _ _ _ _; rw [hw3]; exact ⟨HF2.out.blk.alloc _, HF2.out.len⟩
  have HB4 : Hid (Below w.heap.size w w3) := by show Below _ _ _; rw [hw3]; exact HB3.out.alloc HB3.out.size _
  have HS3 : Hid (w3.heap.size = b + 1) := by show _ = _; rw [hw3, hb]; simp
  clear hcs hb hw3
  go_upto_region 10 with (first
    | (refine wpList_load_mid rfl 24 (.tmp 2) rfl w.heap.size 0 rfl cs _ HX3.out Tryz.underlying24 rfl HI.out ?_)
    | (refine wpList_store_rowTo rfl 24 (.tmp 8) (.tmp 75) rfl rfl w2.heap.size _ rfl rfl 24 _ (heap_alloc_new w2 _) HI.out (by rw [HSZ.out]; rfl) HONE.out ?_; rw [World.setRow_alloc_new, ← HW3.out]))
  rw [← HBN.out]
  clear HW3
  have e26 := HK4.out.cell 26; have e27 := HK4.out.cell 27; have e29 := HK4.out.cell 29; have e18 := HK4.out.cell 18
  have y26 := HK4.out.frozen 26; have y27 := HK4.out.frozen 27; have y29 := HK4.out.frozen 29; have y18 := HK4.out.frozen 18
  replace e26 : w3.cell? ⟨b, 26, none⟩ = some (.bool r.halt) := e26
  replace e27 : w3.cell? ⟨b, 27, none⟩ = some (.bool r.hold) := e27
  replace e29 : w3.cell? ⟨b, 29, none⟩ = some (.int .u8 r.pre) := e29
  replace e18 : w3.cell? ⟨b, 18, none⟩ = some (.int .u8 r.q) := e18
  go_upto_region 14 with fail
  generalize hw4 : World.setCell (World.setCell (World.setCell (World.setCell w3 _ _) _ _) _ _) _ _ = w4
  have HK5 : Hid (Blk w4 b 24 r.rest.cells) := by
    show Blk _ _ _ _
    rw [← hw4]
    exact (((HK4.out.set_ 26 _).set_ 27 _).set_ 29 _).set_ 18 _
  have HO4 : Hid (Only b w3 w4) := by
    show Only _ _ _
    rw [← hw4]
    exact (((Only.set b 26 w3 _).trans (Only.set b 27 _ _)).trans (Only.set b 29 _ _)).trans (Only.set b 18 _ _)
  clear hw4 e26 e27 e29 e18 y26 y27 y29 y18
  have HBH : Hid (b = h + 1) := by show _ = _; rw [HBN.out, HO2.out.size, HS2.out]
  have HHW : Hid (h = w.heap.size + 1) := by show _ = _; rw [HH.out, HS1.out]
  have HF4 : Hid (FlAt w4 h (.slice none 0 0) (.slice none 0 0) ((((fl0.put a 205).put (a + 1) ((g % 256 : Nat) : Int)).put (a + 2) ((g / 256 : Nat) : Int)).put g 201)) := Lib.hid ⟨HO4.out.blk (by have := HBH.out; omega) HF3.out.blk, HF3.out.len⟩
  have HB5 : Hid (Below w.heap.size w w4) := Lib.hid (HB4.out.trans ((Only.ch HO4.out).below' HB4.out.size (fun k _ hk => by rw [hk]; have := HBH.out; have := HHW.out; omega)))
  have HS4 : Hid (w4.heap.size = b + 1) := by show _ = _; rw [HO4.out.size, HS3.out]
  obtain ⟨xs, hxs⟩ : ∃ xs, xs = r.rest.cells := ⟨_, rfl⟩
  have HXS := Lib.hid hxs
  have HX5 : Hid (w4.rangeAt b 0 xs) := by show World.rangeAt _ _ _ _; rw [hxs]; exact blk_range HK5.out
  have HIX : Hid ((Tryz.prog.info? 24).map (·.size) = some xs.length) := by show _ = _; rw [hxs]; exact infoRegsC
  have HNW : Hid (∀ u, Calls Tryz.prog 10 #[.agg xs.toArray] u fun e w' => ∃ g sv, e = .returned (.pointer (some ⟨g, 0, none⟩)) ∧ CpAt w' g sv r.rest.newC ∧ (u.heap.size ≤ g) ∧ (∀ b, sv.ownBlock = some b → u.heap.size ≤ b) ∧ Below u.heap.size u w') := by show ∀ u, Calls _ _ _ _ _; rw [hxs]; exact fun u => cp_new r.rest u
  obtain ⟨c1, f1, c2, f2, hr1, hr2, mB, mA, R, hR⟩ := call_ret r.rest (ok_rest HR.out) a s g (g % 256) (g / 256) ((((fl0.put a 205).put (a + 1) ((g % 256 : Nat) : Int)).put (a + 2) ((g / 256 : Nat) : Int)).put g 201) rfl HF4.out.len rfl rfl rfl rfl HPC.out HSP.out (by omega) (by omega) (by have := HG.out; omega) HA.out HSS.out HG.out
    (by
      have ha := HA.out; have hg := HG.out
      show ((((fl0.m.set a 205).set (a + 1) _).set (a + 2) _).set g 201).getD a 0 = 205
      rw [getD_set_ne _ _ _ _ (by omega), getD_set_ne _ _ _ _ (by omega), getD_set_ne _ _ _ _ (by omega), getD_set_eq _ _ _ (by rw [fl0_len]; omega)])
    (by
      have ha := HA.out; have hg := HG.out
      show ((((fl0.m.set a 205).set (a + 1) _).set (a + 2) _).set g 201).getD (a + 1) 0 = _
      rw [getD_set_ne _ _ _ _ (by omega), getD_set_ne _ _ _ _ (by omega), getD_set_eq _ _ _ (by rw [List.length_set, fl0_len]; omega)])
    (by
      have ha := HA.out; have hg := HG.out
      show ((((fl0.m.set a 205).set (a + 1) _).set (a + 2) _).set g 201).getD (a + 2) 0 = _
      rw [getD_set_ne _ _ _ _ (by omega), getD_set_eq _ _ _ (by rw [List.length_set, List.length_set, fl0_len]; omega)])
    (by
      have ha := HA.out; have hg := HG.out
      show ((((fl0.m.set a 205).set (a + 1) _).set (a + 2) _).set g 201).getD g 0 = _
      rw [getD_set_eq _ _ _ (by rw [List.length_set, List.length_set, List.length_set, fl0_len]; omega)])
  have HR1 := Lib.hid hr1; have HR2 := Lib.hid hr2; have HMB := Lib.hid mB; have HMA := Lib.hid mA; have HRR := Lib.hid hR
  clear hr1 hr2 mB mA hR hxs
  go_upto_region 15 with (first
    | (refine wpList_load_mid rfl 24 (.tmp 8) rfl b 0 rfl xs _ HX5.out Tryz.underlying24 rfl HIX.out ?_)
    | (go_at_call 10
       refine (HNW.out _).mono ?_
       rintro e w5 ⟨p, sv, rfl, h4, h5, h6, h7⟩
       have H4 := Lib.hid h4; have H5 := Lib.hid h5; have H6 := Lib.hid h6; have H7 := Lib.hid h7
       clear h4 h5 h6 h7))
  have HF5 : Hid (FlAt w5 h (.slice none 0 0) (.slice none 0 0) _) := Lib.hid ⟨HF4.out.blk.below_ H7.out, HF4.out.len⟩
  have HK6 : Hid (Blk w5 b 24 r.rest.cells) := Lib.hid (HK5.out.below_ H7.out)
  have T15 : Hid (0 = 0) := Lib.hid rfl
  go_upto_region 18 with (first
    | (go_at_call 11
       clear T15
       refine (fl_stepI p h sv _ _ _ _ _ _ 17 17 rfl _ H4.out HF5.out HR1.out (by decide)).mono ?_
       rintro e w6 ⟨rfl, sv6, h8, h9, h10, h11⟩
       have H8 := Lib.hid h8; have H9 := Lib.hid h9; have H10 := Lib.hid h10; have H11 := Lib.hid h11
       clear h8 h9 h10 h11)
    | (go_at_call 11
       refine (fl_stepI p h sv6 _ _ _ _ _ _ 10 10 rfl _ H8.out H9.out HR2.out (by decide)).mono ?_
       rintro e w7 ⟨rfl, sv7, h8, h9, h10, h11⟩
       have K8 := Lib.hid h8; have K9 := Lib.hid h9; have K10 := Lib.hid h10; have K11 := Lib.hid h11
       clear h8 h9 h10 h11))
  have HNP : Hid (¬ (CpP p sv b ∨ b = h)) := Lib.hid (fun hx => by
    have h5 := H5.out; have hs4 := HS4.out; have hbh := HBH.out
    rcases hx with (hx | hx) | hx
    · omega
    · have := H6.out b hx; omega
    · omega)
  have HCH : Hid (Ch (fun k => CpP p sv k ∨ k = h) w5 w7) := Lib.hid (H11.out.trans K11.out (fun _ _ h => h) fun i hi hp => by
    rcases hp with hp | hp
    · exact .inl (H10.out.place hi hp)
    · exact .inr hp)
  have HK7 : Hid (Blk w7 b 24 r.rest.cells) := Lib.hid (HCH.out.blk HK6.out HNP.out)
  have HB7 : Hid (Below w.heap.size w w7) := Lib.hid ((HB5.out.trans (H7.out.mono (by have := HB5.out.size; exact this))).trans (HCH.out.below' (by have := HB5.out.size; have := H7.out.size; omega) (fun k _ hk => by
    have h5 := H5.out; have hs4 := HS4.out; have hbh := HBH.out; have hhw := HHW.out
    rcases hk with (hk | hk) | hk
    · omega
    · have := H6.out k hk; omega
    · omega)))
  obtain ⟨ys, hys⟩ : ∃ ys, ys = c2.r.cells := ⟨_, rfl⟩
  have HY7 : Hid (w7.rangeAt p 0 ys) := by show World.rangeAt _ _ _ _; rw [hys]; exact K8.out.range
  have HIY : Hid ((Tryz.prog.info? 24).map (·.size) = some ys.length) := by show _ = _; rw [hys]; exact infoRegsC
  have HSY : Hid (ys.toArray.size = 30) := by show _ = _; rw [hys]; rfl
  have HOY : Hid (ys.toArray.all (·.oneCell') = true) := by show _ = _; rw [hys]; simp [Rg.cells, Value.oneCell']
  obtain ⟨d, hd⟩ : ∃ d, d = w7.heap.size := ⟨_, rfl⟩
  have HD := Lib.hid hd
  obtain ⟨w8, hw8⟩ : ∃ w8, w8 = w7.alloc (.cells ys.toArray 24) := ⟨_, rfl⟩
  have HW8 := Lib.hid hw8
  have HK8 : Hid (Blk w8 d 24 c2.r.cells) := by show Blk _ _ _ _; rw [hw8, hd, hys]; exact Blk.new w7 _ c2.r.cells
  have HKB : Hid (Blk w8 b 24 r.rest.cells) := by show Blk _ _ _ _; rw [hw8]; exact HK7.out.alloc _
  have HF8 : Hid (FlAt w8 h (.slice none 0 0) (.slice none 0 0) f2) := by show FlAt _ _ _ _ _; rw [hw8]; exact ⟨K9.out.blk.alloc _, K9.out.len⟩
  have HB8 : Hid (Below w.heap.size w w8) := by show Below _ _ _; rw [hw8]; exact HB7.out.alloc HB7.out.size _
  have HDB : Hid (b < d ∧ h < d) := Lib.hid ⟨by rw [hd]; exact HK7.out.lt, by rw [hd]; exact K9.out.blk.lt⟩
  clear hys hd hw8
  go_upto_region 19 with (first
    | (refine wpList_load_mid rfl 24 (.tmp 92) rfl p 0 rfl ys _ HY7.out Tryz.underlying24 rfl HIY.out ?_)
    | (refine wpList_store_rowTo rfl 24 (.tmp 12) (.tmp 93) rfl rfl w7.heap.size _ rfl rfl 24 _ (heap_alloc_new w7 _) HIY.out (by rw [HSY.out]; rfl) HOY.out ?_; rw [World.setRow_alloc_new, ← HW8.out]))
  rw [← HD.out]
  clear HW8
  have v10 : IntKind.i64.wrap ((a : Int) + 3) = (a : Int) + 3 := by have := HA.out; rw [IntKind.wrap_i64]; omega
  have k22 : w8.cell? ⟨d, 22, none⟩ = some (.int .u16 ((a : Int) + 3)) := by have := HK8.out.cell 22; rw [HRR.out] at this; exact this
  have k23 : w8.cell? ⟨d, 23, none⟩ = some (.int .u16 ((a : Int) + 3)) := by have := HK8.out.cell 23; rw [HRR.out] at this; exact this
  have k17 : w8.cell? ⟨d, 17, none⟩ = some (.int .u8 R) := by have := HK8.out.cell 17; rw [HRR.out] at this; exact this
  have j22 := HK8.out.frozen 22; have j23 := HK8.out.frozen 23; have j17 := HK8.out.frozen 17
  have x22 : w8.cell? ⟨b, 22, none⟩ = some (.int .u16 r.pc) := HKB.out.cell 22
  have x23 : w8.cell? ⟨b, 23, none⟩ = some (.int .u16 r.wz) := HKB.out.cell 23
  have x17 : w8.cell? ⟨b, 17, none⟩ = some (.int .u8 r.r) := HKB.out.cell 17
  have nbd : b ≠ d := by have := HDB.out.1; omega
  have ndb : d ≠ b := by have := HDB.out.1; omega
  go_upto_region 24 with fail
  generalize hw9 : World.setCell (World.setCell (World.setCell w8 _ _) _ _) _ _ = w9
  have HK9 : Hid (Blk w9 d 24 r.rest.cells) := by
    have := ((HK8.out.set_ 22 (.int .u16 r.pc)).set_ 23 (.int .u16 r.wz)).set_ 17 (.int .u8 r.r)
    rw [HRR.out] at this
    show Blk _ _ _ _
    rw [← hw9]
    exact this
  have HO9 : Hid (Only d w8 w9) := by
    show Only _ _ _
    rw [← hw9]
    exact ((Only.set d 22 w8 _).trans (Only.set d 23 _ _)).trans (Only.set d 17 _ _)
  clear hw9 k22 k23 k17 j22 j23 j17 x22 x23 x17 v10
  have HKB9 : Hid (Blk w9 b 24 r.rest.cells) := Lib.hid (HO9.out.blk nbd HKB.out)
  have HF9 : Hid (FlAt w9 h (.slice none 0 0) (.slice none 0 0) f2) := Lib.hid ⟨HO9.out.blk (by have := HDB.out.2; omega) HF8.out.blk, HF8.out.len⟩
  have HB9 : Hid (Below w.heap.size w w9) := Lib.hid (HB8.out.trans ((Only.ch HO9.out).below' HB8.out.size (fun k _ hk => by rw [hk]; have := HDB.out.1; have := HBH.out; have := HHW.out; omega)))
  clear nbd ndb
  have HXD : Hid (w9.rangeAt d 0 xs) := by show World.rangeAt _ _ _ _; rw [HXS.out]; exact blk_range HK9.out
  have HXB : Hid (w9.rangeAt b 0 xs) := by show World.rangeAt _ _ _ _; rw [HXS.out]; exact blk_range HKB9.out
  have HEQ : Hid (∀ u, (do eqGuard .eql 24 (.tmp 123) (.tmp 124) (.agg xs.toArray) (.agg xs.toArray); binOp .eql 24 (.agg xs.toArray) (.agg xs.toArray) : Sem Value).run Tryz.prog u = .ok (.bool true) u) := by show ∀ u, _ = _; rw [HXS.out]; exact eqg2_regs r.rest
  have ha := HA.out; have hs := HSS.out
  obtain ⟨s1, hs1⟩ : ∃ s1, s1 = s - 1 := ⟨_, rfl⟩
  obtain ⟨s2, hs2⟩ : ∃ s2, s2 = s - 2 := ⟨_, rfl⟩
  obtain ⟨q1, hq1⟩ : ∃ q : Int, q = (((a + 3) / 256 : Nat) : Int) := ⟨_, rfl⟩
  obtain ⟨q2, hq2⟩ : ∃ q : Int, q = (((a + 3) % 256 : Nat) : Int) := ⟨_, rfl⟩
  have m1 : w9.cell? ⟨h, s1, none⟩ = some (.int .u8 q1) := by have := HF9.out.byte s1 (by omega); rw [hs1, HMB.out, ← hq1, ← hs1] at this; exact this
  have m2 : w9.cell? ⟨h, s2, none⟩ = some (.int .u8 q2) := by have := HF9.out.byte s2 (by omega); rw [hs2, HMA.out, ← hq2, ← hs2] at this; exact this
  have v11 : IntKind.i64.wrap ((s : Int) - 1) = (s1 : Int) := by rw [IntKind.wrap_i64]; omega
  have v12 : IntKind.i64.wrap ((s : Int) - 2) = (s2 : Int) := by rw [IntKind.wrap_i64]; omega
  have i4 : (s1 : Int) < 65536 := by omega
  have i5 : (s2 : Int) < 65536 := by omega
  have v13 : IntKind.i64.wrap q1 = q1 := by rw [IntKind.wrap_i64]; omega
  have v14 : IntKind.i64.wrap q2 = q2 := by rw [IntKind.wrap_i64]; omega
  obtain ⟨n3, hn3⟩ : ∃ n : Int, n = (a : Int) + 3 := ⟨_, rfl⟩
  have v15 : IntKind.i64.wrap ((a : Int) + 3) = n3 := by rw [IntKind.wrap_i64]; omega
  have v16 : IntKind.i64.wrap (Int.tdiv n3 256) = q1 := by rw [IntKind.wrap_i64, Int.tdiv_eq_ediv_of_nonneg (by omega)]; omega
  have v17 : IntKind.i64.wrap (Int.tmod n3 256) = q2 := by rw [IntKind.wrap_i64, Int.tmod_eq_emod_of_nonneg (by omega)]; omega
  have v18 : Int.tdiv n3 256 = q1 := by rw [Int.tdiv_eq_ediv_of_nonneg (by omega)]; omega
  have v19 : Int.tmod n3 256 = q2 := by rw [Int.tmod_eq_emod_of_nonneg (by omega)]; omega
  clear ha hs hs1 hs2 hq1 hq2 hn3
  generalize (s : Int) = SS at v11 v12 v2 ⊢
  generalize (a : Int) = AA at v15 v1 ⊢
  generalize (g : Int) = GG
  refine wp_region_list ?_
  iterate 22 (first
    | (refine wpList_load_g (by rfl) 24 (.tmp 12) rfl d 0 rfl xs _ HXD.out Tryz.underlying24 rfl HIX.out ?_)
    | (refine wpList_load_g (by rfl) 24 (.tmp 8) rfl b 0 rfl xs _ HXB.out Tryz.underlying24 rfl HIX.out ?_)
    | (refine wpList_bin_g (by rfl) .eql 24 (.tmp 123) (.tmp 124) 24 rfl (.bool true) (.agg xs.toArray) (.agg xs.toArray) rfl rfl (HEQ.out _) ?_)
    | go_step)
  go_wp2_with (first
    | (go_at_call 8; refine (lives12 _).mono ?_; rintro e w10 ⟨rfl, hb10⟩))
  go_ret
  exact ⟨rfl, HB9.out.trans (hb10.mono HB9.out.size)⟩
theorem cpucalls_body (r : Rg) (tg : Int) (w : World) (hr : r.Ok) (ht : (Lit.int .u16 tg).wf = true) : Calls Tryz.prog 4 #[.agg r.cells.toArray, .int .u16 tg] w fun e w' => e = .returned (.bool true) ∧ Below w.heap.size w w' := by
  by_cases h : r.pc < 100 ∨ 30000 < r.pc ∨ r.sp < 32000 ∨ 40000 < r.sp ∨ tg < 50000 ∨ 65000 < tg
  · exact cpucalls_out r hr tg w h
  · obtain ⟨a, ha⟩ := Int.eq_ofNat_of_zero_le (show 0 ≤ r.pc by omega)
    obtain ⟨s, hs⟩ := Int.eq_ofNat_of_zero_le (show 0 ≤ r.sp by omega)
    obtain ⟨g, rfl⟩ := Int.eq_ofNat_of_zero_le (show 0 ≤ tg by omega)
    exact cpucalls_in r hr a s g ha hs (by omega) (by omega) (by omega) w
end Go.Proofs.YtbhpmnhlmeglcaaGreat
