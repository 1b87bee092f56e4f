/- CpuCopies: its body. -/
import Derived.Test.YtbhpmnhlmeglcaaGreatBuCC
import Derived.Test.YtbhpmnhlmeglcaaGreatBuQ2
import Derived.Deep.DeepCutAuto
namespace Go.Proofs.YtbhpmnhlmeglcaaGreat
set_option linter.unusedSimpArgs false
set_option linter.unusedVariables false
open Go.RowKit Go.Sort
/-- all numbers are bytes -/
def AllB (m : List Int) : Prop := ∀ x ∈ m, B8 x
theorem AllB.set_ {m : List Int} (h : AllB m) (i : Nat) (v : Int) (hv : B8 v) : AllB (m.set i v) := fun x hx => by
  rcases List.mem_or_eq_of_mem_set hx with hx | rfl
  · exact h x hx
  · exact hv
theorem AllB.get {m : List Int} (h : AllB m) (i : Nat) : B8 (m.getD i 0) := by
  show B8 ((m[i]?).getD 0)
  cases hx : m[i]? with
  | none => exact ⟨by decide, by decide⟩
  | some x => exact h x (List.mem_of_getElem? hx)
theorem b8_wrap (x : Int) : B8 (IntKind.u8.wrap x) := ⟨by rw [IntKind.wrap_u8]; omega, by rw [IntKind.wrap_u8]; omega⟩
/-- a flat bus at the beginning, whatever stands in memory -/
def Fl.ofM (m : List Int) : Fl := ⟨m, 0, false, []⟩
def badB (s d a : Nat) : Bool := decide ((a < s + 100 ∧ s < a + 100) ∨ (a < d + 100 ∧ d < a + 100) ∨ 65000 < s ∨ 65000 < d)
theorem wpList_allocTo {P : Program} {ops : Array Oper} {rest : List Oper} {o : Oper} {a : Act} {w : World} {Q : Exit → Act → World → Prop} (hg : o.guard = none) (t : TypeId) (ho : o.op = .alloc t)
    (dst : Option Tmp) (hdst : o.dst = dst) (N : Nat) (hN : w.heap.size = N) (Z : Value) (hz : (P.info? t).bind (·.zero) = some Z)
    (h : wpList P ops Q rest (a.put dst (.pointer (some ⟨N, 0, none⟩))) (w.alloc (.cells Z.cells t))) : wpList P ops Q (o :: rest) a w := by
  subst hdst hN
  obtain ⟨i, hi, hzz⟩ := Option.bind_eq_some_iff.1 hz
  refine wpList_plain hg fun K hK => ?_
  unfold Oper.wp execOp
  have hzr : (zeroValue t).run P w = .ok Z w := by
    unfold zeroValue typeInfo
    simp [Sem.run_bind, hi, hzz]
  simp only [ho, Sem.run_bind, Instr.alloc, newVar, newRow, run_newObj_alloc, Sem.run_pure, Result.andThen_ok, hzr]
  exact hK _ _ h
set_option maxRecDepth 1000000 in
theorem zero_bytes : ((Tryz.prog.info? 32).bind (·.zero)).map (fun z => z.cells.size == 65536) = some true := by kernel_rfl
theorem zero_bytes' : ∃ Z : Value, (Tryz.prog.info? 32).bind (·.zero) = some Z ∧ Z.cells.size = 65536 := by
  have h := zero_bytes
  cases hz : (Tryz.prog.info? 32).bind (·.zero) with
  | none => rw [hz] at h; cases h
  | some z =>
    rw [hz] at h
    have h' : (z.cells.size == 65536) = true := by injection h
    exact ⟨z, rfl, by simpa using h'⟩
theorem info_bytes : (Tryz.prog.info? 32).map (·.size) = some 65536 := by kernel_rfl
/-- so many bytes are copied, one behind the other -/
def cpy (s d : Nat) : Nat → List Int → List Int
  | 0, m => m
  | i + 1, m => (cpy s d i m).set (d + i) ((cpy s d i m).getD (s + i) 0)
theorem cpy_len (s d : Nat) (m : List Int) : ∀ i, (cpy s d i m).length = m.length
  | 0 => rfl
  | i + 1 => by show ((cpy s d i m).set _ _).length = _; rw [List.length_set]; exact cpy_len s d m i
theorem cpy_all (s d : Nat) (m : List Int) (h : AllB m) : ∀ i, AllB (cpy s d i m)
  | 0 => h
  | i + 1 => (cpy_all s d m h i).set_ _ _ ((cpy_all s d m h i).get _)
theorem cpy_far (s d : Nat) (m : List Int) (j : Nat) : ∀ i, (j < d ∨ d + i ≤ j) → (cpy s d i m).getD j 0 = m.getD j 0
  | 0, _ => rfl
  | i + 1, h => by
    show ((cpy s d i m).set (d + i) _).getD j 0 = _
    have : d + i ≠ j := by omega
    rw [show ∀ (l : List Int) (v : Int), (l.set (d + i) v).getD j 0 = l.getD j 0 from fun l v => by simp [List.getD, List.getElem?_set, this]]
    exact cpy_far s d m j i (by omega)
/-- the registers when so many bytes were copied -/
structure LdirSt (a s d k i : Nat) (r : Rg) : Prop where
  bc : r.pair 0 0 = ((k - i : Nat) : Int)
  de : r.pair 1 0 = ((d + i : Nat) : Int)
  hl : r.pair 2 0 = ((s + i : Nat) : Int)
  pc : r.pc = if i < k then (a : Int) else a + 2
  halt : r.halt = false
  pre : r.pre = 0
theorem gset_ne (l : List Int) (i j : Nat) (v : Int) (h : i ≠ j) : (l.set i v).getD j 0 = l.getD j 0 := by simp [List.getD, List.getElem?_set, h]
theorem gset_eq (l : List Int) (i : Nat) (v : Int) (h : i < l.length) : (l.set i v).getD i 0 = v := by simp [List.getD, List.getElem?_set, h]
theorem rest_new {r : Rg} (hr : r.Ok) : (r.newC).Rest r := by
  have z8 : B8 0 := ⟨by decide, by decide⟩
  have z16 : B16 0 := ⟨by decide, by decide⟩
  exact ⟨⟨⟨hr, z8, z8, z8, z16, z8, z16, Int.le_refl _, Int.le_refl _, Nat.zero_le _⟩, rfl, rfl, show (0 : Int) ≤ 0 ∧ (0 : Int) ≤ 100 by decide, show (0 : Int) ≤ 0 ∧ (0 : Int) ≤ 100 by decide⟩, rfl, rfl, rfl⟩
theorem Cp.Rest.rok {c : Cp} {r : Rg} (h : c.Rest r) : r.Ok := by rw [← h.r]; exact h.calm.ok.r
theorem ldir_round (a s d k i : Nat) (r : Rg) (c : Cp) (f : Fl) (m1 : List Int) (ha : 8192 ≤ a ∧ a ≤ 32768) (hg : (¬ (a < s + 100 ∧ s < a + 100) ∧ ¬ (a < d + 100 ∧ d < a + 100)) ∧ s ≤ 65000 ∧ d ≤ 65000) (hk : k ≤ 60) (hi : i < k) (hl : m1.length = 65536) (hb : AllB m1) (hcode : m1.getD a 0 = 237 ∧ m1.getD (a + 1) 0 = 176)
    (h : LdirSt a s d k i r) (hc : c.Rest r) (hm : f.m = cpy s d i m1) (hli : f.line = false) :
    ∃ c2 r2 f2, Run (if i + 1 = k then 16 else 21) c f c2 f2 ∧ c2.Rest r2 ∧ LdirSt a s d k (i + 1) r2 ∧ f2.m = cpy s d (i + 1) m1 ∧ f2.line = false ∧ f2.acts = f.acts := by
  have hpc : r.pc = a := by rw [h.pc, if_pos hi]
  have e1 : r.pc.toNat = a := by rw [hpc]; rfl
  have e2 : ((r.pc + 1) % 65536).toNat = a + 1 := by rw [hpc]; omega
  have e3 : (r.pair 2 0).toNat = s + i := by rw [h.hl]; rfl
  have e4 : (r.pair 1 0).toNat = d + i := by rw [h.de]; rfl
  obtain ⟨r2, f2, h1, h2, h3, h4, h5⟩ := ins_ldir r f hc.rok hli h.halt (by rw [e1, hm, cpy_far s d m1 a i (by omega)]; exact hcode.1) (by rw [e2, hm, cpy_far s d m1 (a + 1) i (by omega)]; exact hcode.2) ((cpy s d i m1).getD (s + i) 0) (by rw [e3, hm]) ((cpy_all s d m1 hb i).get _)
  obtain ⟨c2, h6, h7⟩ := h1 c hc
  have hbc := h.bc
  have hone : (r.pair 0 0 = 1) ↔ i + 1 = k := by rw [hbc]; omega
  refine ⟨c2, r2, f2, ?_, h6, ⟨?_, ?_, ?_, ?_, ?_, h2.pre⟩, ?_, h4, h5⟩
  · by_cases hq : i + 1 = k
    · rw [if_pos hq]; rw [if_pos (hone.2 hq)] at h7; exact h7
    · rw [if_neg hq]; rw [if_neg (fun h => hq (hone.1 h))] at h7; exact h7
  · rw [h2.bc, hbc]; omega
  · rw [h2.de, h.de]; omega
  · rw [h2.hl, h.hl]; omega
  · rw [h2.pc, hpc]
    by_cases hq : i + 1 = k
    · rw [show decide (r.pair 0 0 ≠ 1) = false by simpa using hone.2 hq]
      simp only [Bool.false_eq_true, if_false]
      rw [if_neg (by omega)]
      omega
    · rw [show decide (r.pair 0 0 ≠ 1) = true by simpa using fun h => hq (hone.1 h)]
      simp only [if_true]
      rw [if_pos (by omega)]
  · rw [h2.halt, h.halt]
  · rw [h3, hm, e4]; rfl
def StepsR (a s d k : Nat) (m1 : List Int) (p h : Nat) (sv8 : Value) (w8 : World) (t v : Value) (wr : World) : Prop := ∃ (i : Nat) (r : Rg) (c : Cp) (f : Fl) (sv av : Value), v = .int .i64 i ∧ t = .int .i64 ((21 * i - (if i = k then 5 else 0) : Nat) : Int) ∧ i ≤ k ∧ CpAt wr p sv c ∧ FlAt wr h av f ∧ c.Rest r ∧ LdirSt a s d k i r ∧ f.m = cpy s d i m1 ∧ f.line = false ∧ f.acts = [] ∧ SvTo w8 sv8 sv ∧ SvTo w8 (.slice none 0 0) av ∧ Ch (SysP p h sv8 (.slice none 0 0)) w8 wr
def CpyR (s d b : Nat) (m1 : List Int) (k : Nat) (w4 : World) (v : Value) (wr : World) : Prop := ∃ i : Nat, v = .int .i64 i ∧ i ≤ k ∧ Blk wr b 32 ((cpy s d i m1).map (.int .u8)) ∧ Only b w4 wr
def FillR (w w1 : World) (h : Nat) (v : Value) (wr : World) : Prop := ∃ (i : Nat) (m : List Int), v = .int .i64 i ∧ i ≤ 65536 ∧ FlAt wr h (.slice none 0 0) (Fl.ofM m) ∧ AllB m ∧ Only h w1 wr
set_option maxRecDepth 100000 in
set_option maxHeartbeats 20000000 in
theorem cpucopies_body (s d : Nat) (n : Int) (w : World) (hs : s < 65536) (hd : d < 65536) (hn : (Lit.int .i64 n).wf = true) :
    Calls Tryz.prog 5 #[.int .u16 s, .int .u16 d, .int .i64 n] w fun e w' => e = .returned (.bool true) ∧ Below w.heap.size w w' := by
  obtain ⟨Z, hZ, hZl⟩ := flat_zero
  have HBu := Lib.hid hZ
  have HF0 := Lib.hid (fl_new Z hZl w)
  obtain ⟨k, hk⟩ : ∃ k : Nat, max 1 (min n 60) = (k : Int) := ⟨(max 1 (min n 60)).toNat, by omega⟩
  have hk1 : 1 ≤ k ∧ k ≤ 60 := by omega
  have HK := Lib.hid hk; have HK1 := Lib.hid hk1
  obtain ⟨h, hh⟩ : ∃ h, h = w.heap.size := ⟨_, rfl⟩
  have HH := Lib.hid hh
  obtain ⟨w1, hw1⟩ : ∃ w1, w1 = w.alloc (.cells Z 37) := ⟨_, rfl⟩
  have HW1 := Lib.hid hw1
  rw [← hw1, ← hh] at HF0
  have HB1 : Hid (Below w.heap.size w w1) := by show Below _ _ _; rw [hw1]; exact (Below.refl _ w).alloc (Nat.le_refl _) _
  clear hZ hZl hw1 hh hk hk1 hn
  go_enter Tryz.func5, Tryz.ntmps5
  go_upto_region 2 with fail
  rw [HK.out]
  refine wp_region_list ?_
  refine wpList_buildTo rfl 37 #[] rfl (some 20) rfl Z (Eq.trans (congrArg _ (by simp)) HBu.out) ?_
  refine Great.wpList_boxTo rfl 37 (.tmp 20) rfl (some 21) rfl h HH.out.symm Z rfl ?_
  rw [← HW1.out]
  clear HW1
  go_wp2_with fail
  go_loopw [9] (FillR w w1 h) (fun v _ => 65536 - (intOf v).toNat)
  case atStart => exact ⟨0, fl0.m, rfl, Nat.zero_le _, HF0.out, fun x hx => by rw [List.eq_of_mem_replicate hx]; exact ⟨by decide, by decide⟩, Only.refl _ _⟩
  case round =>
    obtain ⟨i, m, rfl, hi, hf, ha, ho⟩ := hrel
    by_cases hlt : i < 65536
    · have hc := hf.byte i hlt
      have hz := hf.blk.frozen i
      have hi2 : (i : Int) < 65536 := by omega
      have HF := Lib.hid hf; have HA := Lib.hid ha; have HO := Lib.hid ho
      clear hf ha ho
      obtain ⟨x, hx⟩ : ∃ x, x = (Fl.ofM m).m.getD i 0 := ⟨_, rfl⟩
      rw [← hx] at hc
      clear hx
      go_wp2_with fail
      go_roundw
      case rel => exact ⟨i + 1, m.set i _, by go_num, by omega, HF.out.put i hlt _, HA.out.set_ i _ (b8_mod _), HO.out.trans (Only.set h i wr _)⟩
      case measure => simp [intOf]; omega
    · have hge : ¬ (i : Int) < 65536 := by omega
      have HF := Lib.hid hf; have HA := Lib.hid ha; have HO := Lib.hid ho
      obtain ⟨a, ha⟩ : ∃ a : Nat, 32768 - (s : Int) / 32768 * 16384 - (d : Int) / 32768 * 8192 = a := ⟨(32768 - (s : Int) / 32768 * 16384 - (d : Int) / 32768 * 8192).toNat, by omega⟩
      have ha2 : a = 32768 ∨ a = 16384 ∨ a = 24576 ∨ a = 8192 := by omega
      have HAA := Lib.hid ha; have HA2 := Lib.hid ha2
      have ha3 : 8192 ≤ a ∧ a ≤ 32768 := by omega
      obtain ⟨ha4, ha5⟩ := ha3
      clear hf ho ha ha2 hi hlt
      go_upto_region 8 with fail
      rw [HAA.out]
      go_cut [83] (fun t wx => Hid (t = .bool (badB s d a)) ∧ wr = wx)
      case first =>
        as_aux_lemma =>
          by_cases t12 : (a : Int) < (s : Int) + 100 ∧ (s : Int) < (a : Int) + 100
          · obtain ⟨t1, t2⟩ := t12
            go_wp2_with fail
            go_meet
            exact ⟨Lib.hid (congrArg Value.bool (by unfold badB; simp; omega)), rfl⟩
          · by_cases t1 : (a : Int) < (s : Int) + 100
            all_goals
              try have t2 : ¬ (s : Int) < (a : Int) + 100 := fun h => t12 ⟨t1, h⟩
              clear t12
              by_cases t34 : (a : Int) < (d : Int) + 100 ∧ (d : Int) < (a : Int) + 100
              · obtain ⟨t3, t4⟩ := t34
                go_wp2_with fail
                go_meet
                exact ⟨Lib.hid (congrArg Value.bool (by unfold badB; simp; omega)), rfl⟩
              · by_cases t3 : (a : Int) < (d : Int) + 100
                all_goals
                  try have t4 : ¬ (d : Int) < (a : Int) + 100 := fun h => t34 ⟨t3, h⟩
                  clear t34
                  by_cases t5 : 65000 < (s : Int)
                  · go_wp2_with fail
                    go_meet
                    exact ⟨Lib.hid (congrArg Value.bool (by unfold badB; simp; omega)), rfl⟩
                  · by_cases t6 : 65000 < (d : Int)
                    all_goals
                      go_wp2_with fail
                      go_meet
                      exact ⟨Lib.hid (congrArg Value.bool (by unfold badB; simp; omega)), rfl⟩
      case rest =>
        obtain ⟨HT, rfl⟩ := hcut
        have ht := HT.out
        subst ht
        cases hb : badB s d a with
        | true =>
          go_wp2_with (first
            | (go_at_call 8; refine (lives12 _).mono ?_; rintro e w9 ⟨rfl, hb9⟩))
          go_ret
          exact ⟨rfl, (HB1.out.trans ((Only.ch HO.out).below' HB1.out.size (fun k _ hk => by rw [hk, HH.out]; exact Nat.le_refl _))).trans (hb9.mono (by have := HB1.out.size; have := HO.out.size; omega))⟩
        | false =>
          have hgood : (¬ (a < s + 100 ∧ s < a + 100) ∧ ¬ (a < d + 100 ∧ d < a + 100)) ∧ s ≤ 65000 ∧ d ≤ 65000 := by unfold badB at hb; simp at hb; omega
          have HG := Lib.hid hgood
          clear hgood
          obtain ⟨hg5, hg6⟩ : s ≤ 65000 ∧ d ≤ 65000 := HG.out.2
          have c0 := HF.out.byte a (by omega)
          have c1 := HF.out.byte (a + 1) (by omega)
          have z0 := HF.out.blk.frozen a
          have z1 := HF.out.blk.frozen (a + 1)
          have i0 : (a : Int) < 65536 := by omega
          have i1 : ((a + 1 : Nat) : Int) < 65536 := by omega
          have v1 : IntKind.i64.wrap ((a : Int) + 1) = ((a + 1 : Nat) : Int) := by rw [IntKind.wrap_i64]; omega
          generalize (Fl.ofM m).m.getD a 0 = x0 at c0
          generalize (Fl.ofM m).m.getD (a + 1) 0 = x1 at c1
          go_upto_region 12 with fail
          generalize hw4 : World.setCell (World.setCell wr _ _) _ _ = w4
          obtain ⟨m1, hm1⟩ : ∃ m1, m1 = (m.set a 237).set (a + 1) 176 := ⟨_, rfl⟩
          have HM1 := Lib.hid hm1
          have HF4 : Hid (FlAt w4 h (.slice none 0 0) (Fl.ofM m1)) := by
            show FlAt _ _ _ _
            rw [← hw4, hm1]
            exact (HF.out.put a (by omega) 237).put (a + 1) (by omega) 176
          have HO4 : Hid (Only h w1 w4) := by show Only _ _ _; rw [← hw4]; exact (HO.out.trans (Only.set h a wr _)).trans (Only.set h (a + 1) _ _)
          have HA4 : Hid (AllB m1) := by show AllB _; rw [hm1]; exact (HA.out.set_ a 237 ⟨by decide, by decide⟩).set_ (a + 1) 176 ⟨by decide, by decide⟩
          have HL4 : Hid (m1.length = 65536) := Lib.hid HF4.out.len
          clear hw4 hm1 c0 c1 z0 z1 i0 i1 v1
          obtain ⟨cs, hcs⟩ : ∃ cs : List Value, cs = m1.map (.int .u8) := ⟨_, rfl⟩
          have HX4 : Hid (w4.rangeAt h 0 cs) := Lib.hid (fun j v hv => by
            rw [hcs] at hv
            rw [Nat.zero_add]
            refine (HF4.out.blk.cell j).trans ?_
            rw [show (Fl.ofM m1).m = m1 from rfl, List.getElem?_append_left (List.getElem?_eq_some_iff.1 hv).1]
            exact hv)
          have HI4 : Hid ((Tryz.prog.info? 32).map (·.size) = some cs.length) := by show _ = _; rw [hcs, List.length_map, HL4.out]; exact info_bytes
          have HS4 : Hid (cs.toArray.size = 65536) := by show _ = _; rw [hcs]; simp; exact HL4.out
          have HC4 : Hid (cs.toArray.all (·.oneCell') = true) := by show _ = _; rw [hcs]; simp [Value.oneCell']
          obtain ⟨Z2, hZ2, hZ3⟩ := zero_bytes'
          have HZ2 := Lib.hid hZ2; have HZ3 := Lib.hid hZ3
          obtain ⟨b, hb⟩ : ∃ b, b = w4.heap.size := ⟨_, rfl⟩
          have HBB := Lib.hid hb
          obtain ⟨w5, hw5⟩ : ∃ w5, w5 = w4.alloc (.cells cs.toArray 32) := ⟨_, rfl⟩
          have HW5 := Lib.hid hw5
          have HK5 : Hid (Blk w5 b 32 ((cpy s d 0 m1).map (.int .u8))) := by show Blk _ _ _ _; rw [hw5, hb, hcs]; exact Blk.new w4 _ _
          have HF5 : Hid (FlAt w5 h (.slice none 0 0) (Fl.ofM m1)) := by show FlAt _ _ _ _; rw [hw5]; exact HF4.out.ch (p := fun _ => False) (Below.ch ((Below.refl _ w4).alloc (Nat.le_refl _) _)) (fun h => h) (fun _ _ h => h)
          have HHB : Hid (h < b) := by show h < b; rw [hb]; exact HF4.out.blk.lt
          have HB5 : Hid (Below w.heap.size w w5) := by
            show Below _ _ _
            rw [hw5]
            have h1 : Below w.heap.size w w4 := HB1.out.trans ((Only.ch HO4.out).below' HB1.out.size (fun k _ hk => by rw [hk, HH.out]; exact Nat.le_refl _))
            exact h1.alloc h1.size _
          clear hcs hb hw5 hZ2 hZ3
          go_upto_region 13 with (first
            | (refine wpList_load_mid rfl 32 (.tmp 98) rfl h 0 rfl cs _ HX4.out Tryz.underlying32 rfl HI4.out ?_)
            | (refine wpList_allocTo rfl 32 rfl (some 11) rfl b HBB.out.symm Z2 HZ2.out ?_)
            | (refine wpList_store_rowTo rfl 32 (.tmp 11) (.tmp 99) rfl rfl b _ rfl rfl 32 _ (by rw [HBB.out]; exact heap_alloc_new w4 _) (by rw [HI4.out, HS4.out]; simpa using HS4.out) (by rw [HS4.out]; exact HZ3.out) HC4.out ?_; rw [HBB.out, World.setRow_alloc_new, ← HW5.out, ← HBB.out]))
          clear HW5
          have hk1 := HK1.out
          obtain ⟨hk2, hk3⟩ := hk1
          obtain ⟨wo, hwo⟩ : ∃ wo : World, wo = wr := ⟨_, rfl⟩
          go_wp2_with fail
          go_loopw [12] (CpyR s d b m1 k w5) (fun v _ => k - (intOf v).toNat)
          case atStart => exact ⟨0, rfl, Nat.zero_le _, HK5.out, Only.refl _ _⟩
          case round =>
            obtain ⟨j, rfl, hj, hbk, hoj⟩ := hrel
            have HBK := Lib.hid hbk; have HOJ := Lib.hid hoj
            clear hbk hoj
            by_cases hjk : j < k
            · have hc := HBK.out.cell (s + j)
              have hl : (cpy s d j m1).length = 65536 := by rw [cpy_len]; exact HL4.out
              obtain ⟨x, hx⟩ : ∃ x, x = (cpy s d j m1).getD (s + j) 0 := ⟨_, rfl⟩
              have hc2 : wr.cell? ⟨b, s + j, none⟩ = some (.int .u8 x) := by
                rw [hc, List.getElem?_map, List.getElem?_eq_getElem (by rw [hl]; omega), hx]
                simp [List.getD, List.getElem?_eq_getElem (show s + j < (cpy s d j m1).length by rw [hl]; omega)]
              have hz := HBK.out.frozen (d + j)
              have hdc : ∃ y, wr.cell? ⟨b, d + j, none⟩ = some y := ⟨_, by rw [HBK.out.cell (d + j), List.getElem?_map, List.getElem?_eq_getElem (show d + j < (cpy s d j m1).length by rw [hl]; omega)]; rfl⟩
              obtain ⟨y, hdc⟩ := hdc
              have HX := Lib.hid hx
              have i0 : ((s + j : Nat) : Int) < 65536 := by omega
              have i1 : ((d + j : Nat) : Int) < 65536 := by omega
              have v1 : IntKind.i64.wrap ((s : Int) + j) = ((s + j : Nat) : Int) := by rw [IntKind.wrap_i64]; omega
              have v2 : IntKind.i64.wrap ((d : Int) + j) = ((d + j : Nat) : Int) := by rw [IntKind.wrap_i64]; omega
              clear hc hl hx
              go_wp2_with fail
              go_roundw
              case rel => exact ⟨j + 1, by go_num, by omega, by have := HBK.out.set_ (d + j) (.int .u8 x); rw [← List.map_set, HX.out] at this; rw [HX.out]; exact this, HOJ.out.trans (Only.set b (d + j) wr _)⟩
              case measure => simp [intOf]; omega
            · obtain rfl : j = k := by omega
              go_upto_region 17 with fail
              have e1 : IntKind.u16.wrap (a : Int) = a := by rw [IntKind.wrap_u16]; omega
              have e2 : IntKind.u8.wrap (j : Int) = j := by rw [IntKind.wrap_u8]; omega
              have e3 : IntKind.u8.wrap ((s : Int) / 256) = (s : Int) / 256 := by rw [IntKind.wrap_u8]; omega
              have e4 : IntKind.u8.wrap ((d : Int) / 256) = (d : Int) / 256 := by rw [IntKind.wrap_u8]; omega
              obtain ⟨r0, hr0⟩ : ∃ r0 : Rg, r0 = { rz with pc := (a : Int), c := (j : Int), h := (s : Int) / 256, l := (s : Int) % 256, d := (d : Int) / 256, e := (d : Int) % 256 } := ⟨_, rfl⟩
              have hok0 : r0.Ok := by
                have z8 : B8 0 := ⟨by decide, by decide⟩
                have z16 : B16 0 := ⟨by decide, by decide⟩
                rw [hr0]
                exact ⟨z8, z8, z8, ⟨by show (0 : Int) ≤ (j : Int); omega, by show (j : Int) ≤ 255; omega⟩, ⟨by show 0 ≤ (d : Int) / 256; omega, by show (d : Int) / 256 ≤ 255; omega⟩, b8_mod _, ⟨by show 0 ≤ (s : Int) / 256; omega, by show (s : Int) / 256 ≤ 255; omega⟩, b8_mod _, z8, z8, z8, z8, z8, z8, z8, z8, z8, z8, z8, z16, z16, z16, ⟨by show (0 : Int) ≤ (a : Int); omega, by show (a : Int) ≤ 65535; omega⟩, z16, z8, z8⟩
              have HR0 := Lib.hid hok0
              have HST0 : Hid (LdirSt a s d j 0 r0) := Lib.hid ⟨by rw [hr0]; show (0 : Int) * 256 + (j : Int) = _; omega, by rw [hr0]; show (d : Int) / 256 * 256 + (d : Int) % 256 = _; omega, by rw [hr0]; show (s : Int) / 256 * 256 + (s : Int) % 256 = _; omega, by rw [hr0, if_pos (by omega)], by rw [hr0]; rfl, by rw [hr0]; rfl⟩
              have HNW := Lib.hid (cp_new ⟨0, 0, 0, j, (d : Int) / 256, (d : Int) % 256, (s : Int) / 256, (s : Int) % 256, 0, 0, 0, 0, 0, 0, 0, 0, 0, 0, 0, 0, 0, 0, a, 0, false, false, false, false, 0, 0⟩)
              have HR0E : Hid (r0 = ⟨0, 0, 0, j, (d : Int) / 256, (d : Int) % 256, (s : Int) / 256, (s : Int) % 256, 0, 0, 0, 0, 0, 0, 0, 0, 0, 0, 0, 0, 0, 0, a, 0, false, false, false, false, 0, 0⟩) := by show _ = _; rw [hr0]; rfl
              clear hr0 hok0
              obtain ⟨w6, hw6⟩ : ∃ w6, w6 = wr := ⟨_, rfl⟩
              have HWR := Lib.hid hw6
              rw [← hw6] at HBK HOJ ⊢
              clear hw6
              have HB6 : Hid (Below w.heap.size w w6) := Lib.hid (HB5.out.trans ((Only.ch HOJ.out).below' HB5.out.size (fun k _ hk => by rw [hk]; have := HHB.out; have := HH.out; omega)))
              have HF6 : Hid (FlAt w6 h (.slice none 0 0) (Fl.ofM m1)) := Lib.hid (HF5.out.ch (Only.ch HOJ.out) (by have := HHB.out; omega) (fun k hk => by cases hk))
              go_upto_region 21 with (first
                | (go_at_call 10
                   refine (HNW.out _).mono ?_
                   rw [← HR0E.out]
                   rintro e w7 ⟨p, sv, rfl, h4, h5, h6, h7⟩
                   have H4 := Lib.hid h4; have H5 := Lib.hid h5; have H6 := Lib.hid h6; have H7 := Lib.hid h7
                   clear h4 h5 h6 h7)
                | (go_at_call 14
                   refine (cp_copy p sv r0.newC _ H4.out rfl).mono ?_
                   rintro e w8 ⟨q, sq, rfl, h4, h5, h6, h7⟩
                   have K4 := Lib.hid h4; have K5 := Lib.hid h5; have K6 := Lib.hid h6; have K7 := Lib.hid h7
                   clear h4 h5 h6 h7))
              clear hs hd ha hge
              have HP : Hid (p ≠ h ∧ b < p ∧ p < q ∧ q ≠ h ∧ b ≠ q ∧ (∀ k, sv.ownBlock = some k → k ≠ q ∧ k ≠ b)) := Lib.hid (by
                have h5 := H5.out; have k5 := K5.out; have hbl := HBK.out.lt; have hhb := HHB.out; have hp := H4.out.blk.lt
                refine ⟨by omega, by omega, by omega, by omega, by omega, fun k hk => ?_⟩
                have h1 := H6.out k hk
                have h2 := (H4.out.own.lt k hk).2
                exact ⟨by omega, by omega⟩)
              have HC8 : Hid (CpAt w8 p sv r0.newC) := Lib.hid (H4.out.below K7.out)
              have HF8 : Hid (FlAt w8 h (.slice none 0 0) (Fl.ofM m1)) := Lib.hid (by
                have h1 : FlAt w7 h (.slice none 0 0) (Fl.ofM m1) := HF6.out.ch (p := fun _ => False) (Below.ch H7.out) (fun h => h) (fun _ _ h => h)
                exact h1.ch (p := fun _ => False) (Below.ch K7.out) (fun h => h) (fun _ _ h => h))
              have HBK8 : Hid (Blk w8 b 32 ((cpy s d j m1).map (.int .u8))) := Lib.hid ((HBK.out.below_ H7.out).below_ K7.out)
              have HB8 : Hid (Below w.heap.size w w8) := Lib.hid ((HB6.out.trans (H7.out.mono HB6.out.size)).trans (K7.out.mono (by have := HB6.out.size; have := H7.out.size; omega)))
              have hcode : Hid (m1.getD a 0 = 237 ∧ m1.getD (a + 1) 0 = 176) := Lib.hid (by
                have hl : m.length = 65536 := HF.out.len
                rw [HM1.out]
                refine ⟨?_, ?_⟩
                · rw [gset_ne _ _ _ _ (by omega), gset_eq _ _ _ (by omega)]
                · rw [gset_eq _ _ _ (by rw [List.length_set]; omega)])
              go_wp2_with fail
              go_loopw [15, 16] (StepsR a s d j m1 p h sv w8) (fun _ v _ => j - (intOf v).toNat)
              case atStart => exact ⟨0, r0, r0.newC, Fl.ofM m1, sv, .slice none 0 0, rfl, by rw [if_neg (by omega)]; rfl, Nat.zero_le _, HC8.out, HF8.out, rest_new HR0.out, HST0.out, rfl, rfl, rfl, .inl rfl, .inl rfl, Ch.refl _ _⟩
              case round =>
                obtain ⟨x, r, c, f, sv1, av1, rfl, rfl, hx, hc, hf, hre, hst, hm, hli, hac, hs1, ha1, hch⟩ := hrel
                by_cases hxj : x < j
                · obtain ⟨c2, r2, f2, hrun, hre2, hst2, hm2, hli2, hac2⟩ := ldir_round a s d j x r c f m1 ⟨ha4, ha5⟩ HG.out hk3 hxj HL4.out HA4.out hcode.out hst hre hm hli
                  have hKK : (if x + 1 = j then 16 else 21) ≤ 1000000 := by split <;> decide
                  have HSTEP := Lib.hid (fl_step p h sv1 av1 c c2 f f2 _ wr hc hf hrun hKK)
                  have hn0 : ¬ x = j := by omega
                  rw [if_neg hn0]
                  have HALL : Hid (∀ w', SysTo p h wr sv1 av1 c2 f2 w' → StepsR a s d j m1 p h sv w8 (.int .i64 ((21 * (x + 1) - (if x + 1 = j then 5 else 0) : Nat) : Int)) (.int .i64 ((x + 1 : Nat) : Int)) w') := Lib.hid (fun w' hsy => by
                    obtain ⟨sv2, av2, y1, y2, y3, y4, y5⟩ := hsy
                    refine ⟨x + 1, r2, c2, f2, sv2, av2, rfl, rfl, by omega, y1, y2, hre2, hst2, hm2, hli2, by rw [hac2, hac], hs1.trans y3 hch.size, ha1.trans y4 hch.size, hch.trans y5 (fun _ _ h => h) fun i hi hp => ?_⟩
                    rcases hp with hp | hp
                    · exact .inl (hs1.place hi hp)
                    · exact .inr (ha1.placeF hi hp))
                  clear hc hf hre hst hm hli hac hs1 ha1 hch hrun hre2 hst2 hm2 hli2 hac2 hKK hn0
                  obtain ⟨T, hT⟩ : ∃ T : Nat, T = 21 * x - 0 := ⟨_, rfl⟩
                  rw [← hT]
                  obtain ⟨N, hN⟩ : ∃ N : Nat, N = if x + 1 = j then 16 else 21 := ⟨_, rfl⟩
                  rw [← hN] at HSTEP
                  obtain ⟨T2, hT2⟩ : ∃ T2 : Nat, T2 = 21 * (x + 1) - (if x + 1 = j then 5 else 0) := ⟨_, rfl⟩
                  rw [← hT2] at HALL
                  have hsum : IntKind.i64.wrap ((T : Int) + N) = T2 := by
                    rw [IntKind.wrap_i64, hT, hN, hT2]
                    split <;> omega
                  clear hT hN hT2
                  have HSUM := Lib.hid hsum
                  clear hsum
                  go_wp2_with (first
                    | (go_at_call 11; refine HSTEP.out.mono ?_; rintro e w9 ⟨rfl, h9⟩; have hsum := HSUM.out))
                  go_roundw
                  case rel => exact HALL.out _ h9
                  case measure => simp [intOf]; omega
                · obtain rfl : x = j := by omega
                  rw [if_pos rfl]
                  go_upto_region 26 with fail
                  have HC9 := Lib.hid hc; have HF9 := Lib.hid hf; have HRE := Lib.hid hre; have HST := Lib.hid hst; have HM9 := Lib.hid hm; have HCH := Lib.hid hch
                  clear hc hf hre hst hm hli hac hs1 ha1 hch hx hxj
                  have HNP : Hid (¬ SysP p h sv (.slice none 0 0) q ∧ ¬ SysP p h sv (.slice none 0 0) b) := Lib.hid (by
                    obtain ⟨x1, x2, x3, x4, x5, x6⟩ := HP.out
                    have x7 := HHB.out
                    refine ⟨fun hp => ?_, fun hp => ?_⟩
                    · rcases hp with (hp | hp) | hp | hp
                      · omega
                      · exact (x6 q hp).1 rfl
                      · omega
                      · cases hp
                    · rcases hp with (hp | hp) | hp | hp
                      · omega
                      · exact (x6 b hp).2 rfl
                      · omega
                      · cases hp)
                  have HB9 : Hid (Below w.heap.size w wr) := Lib.hid (HB8.out.trans (HCH.out.below' HB8.out.size (fun k _ hk => by
                    have hh := HH.out
                    have h5 := H5.out; have hb6 := HB6.out.size
                    rcases hk with (hk | hk) | hk | hk
                    · omega
                    · have := H6.out k hk; omega
                    · omega
                    · cases hk)))
                  have HQ9 : Hid (Blk wr q 46 (r0.newC.cells sq)) := Lib.hid (HCH.out.blk K4.out.blk HNP.out.1)
                  obtain ⟨ms, hms⟩ : ∃ ms : List Value, ms = (cpy s d x m1).map (.int .u8) := ⟨_, rfl⟩
                  have HL9 : Hid ((cpy s d x m1).length = 65536) := Lib.hid (by rw [cpy_len]; exact HL4.out)
                  have HXB : Hid (wr.rangeAt b 0 ms) := by show World.rangeAt _ _ _ _; rw [hms]; exact blk_range (HCH.out.blk HBK8.out HNP.out.2)
                  have HXH : Hid (wr.rangeAt h 0 ms) := Lib.hid (fun i v hv => by
                    rw [hms] at hv
                    rw [Nat.zero_add]
                    refine (HF9.out.blk.cell i).trans ?_
                    rw [HM9.out, List.getElem?_append_left (List.getElem?_eq_some_iff.1 hv).1]
                    exact hv)
                  have HIM : Hid ((Tryz.prog.info? 32).map (·.size) = some ms.length) := by show _ = _; rw [hms, List.length_map, HL9.out]; exact info_bytes
                  have HEQ : Hid (∀ u, (do eqGuard .eql 32 (.tmp 161) (.tmp 162) (.agg ms.toArray) (.agg ms.toArray); binOp .eql 32 (.agg ms.toArray) (.agg ms.toArray) : Sem Value).run Tryz.prog u = .ok (.bool true) u) := by show ∀ u, _; rw [hms]; exact eq_bytes _ _ _ HL9.out
                  have HBC : Hid (r.b = 0 ∧ r.c = 0 ∧ r.pc = ((a + 2 : Nat) : Int)) := Lib.hid (by
                    have hok := HRE.out.rok
                    have h1 := HST.out.bc
                    have h2 := HST.out.pc
                    rw [if_neg (by omega)] at h2
                    obtain ⟨b0, b1⟩ := hok.b
                    obtain ⟨c0, c1⟩ := hok.c
                    have h3 : r.b * 256 + r.c = ((x - x : Nat) : Int) := h1
                    exact ⟨by omega, by omega, by rw [h2]; omega⟩)
                  have hcr := HRE.out.r
                  have c2 : wr.cell? ⟨p, 2, none⟩ = some (.int .u8 0) := by rw [← HBC.out.1, ← hcr]; exact HC9.out.blk.cell 2
                  have c3 : wr.cell? ⟨p, 3, none⟩ = some (.int .u8 0) := by rw [← HBC.out.2.1, ← hcr]; exact HC9.out.blk.cell 3
                  have c22 : wr.cell? ⟨p, 22, none⟩ = some (.int .u16 ((a + 2 : Nat) : Int)) := by rw [← HBC.out.2.2, ← hcr]; exact HC9.out.blk.cell 22
                  have d22 : wr.cell? ⟨q, 22, none⟩ = some (.int .u16 a) := by have := HQ9.out.cell 22; rw [HR0E.out] at this; exact this
                  have d42 : wr.cell? ⟨q, 42, none⟩ = some (.int .i64 (-1)) := by have := HQ9.out.cell 42; rw [HR0E.out] at this; exact this
                  have q2 := quiet_cell c2; have q3 := quiet_cell c3; have q22 := quiet_cell c22; have r22 := quiet_cell d22
                  have GD : Hid (∀ D os, Calls Tryz.prog 13 #[.pointer (some ⟨q, 0, none⟩)] (grow (redrawn wr D) os) fun e w'' => e = .returned (.bool true) ∧ ∃ p : Regrown, w'' = grow (redrawn wr p.d) p.os) := Lib.hid (fun D os => done_quiet ⟨HQ9.out, own_keepC K4.out.own fun k hk => HCH.out.block k (K4.out.own.lt k hk).2 (fun hp => by
                    have k6 := K6.out k hk
                    have hp7 := H4.out.blk.lt
                    have hh7 := HHB.out
                    have hp0 := HP.out
                    rcases hp with (hp | hp) | hp | hp
                    · omega
                    · have := (H4.out.own.lt k hp).2; omega
                    · omega
                    · cases hp)⟩ rfl)
                  have G5 : Hid (Gives 8 #[] (.bool true)) := Lib.hid lives12
                  have n1 : IntKind.i64.wrap (21 * (x : Int)) = 21 * (x : Int) := by rw [IntKind.wrap_i64]; omega
                  obtain ⟨T, hT⟩ : ∃ T : Int, T = ((21 * x - 5 : Nat) : Int) := ⟨_, rfl⟩
                  have n2 : IntKind.i64.wrap (21 * (x : Int) - 5) = T := by rw [IntKind.wrap_i64, hT]; omega
                  have n3 : IntKind.i64.wrap ((a : Int) + 2) = ((a + 2 : Nat) : Int) := by rw [IntKind.wrap_i64]; omega
                  have n4 : IntKind.i64.wrap ((a + 2 : Nat) : Int) = ((a + 2 : Nat) : Int) := by rw [IntKind.wrap_i64]; omega
                  have n5 : IntKind.i64.wrap (a : Int) = (a : Int) := by rw [IntKind.wrap_i64]; omega
                  rw [← hT]
                  clear hT hms hcr c2 c3 c22 d22 d42
                  as_aux_lemma =>
                    refine wp_region_quiet_below (by kernel_rfl) (by kernel_rfl) ?_
                    repeat (first
                      | (refine wpQuiet_step (fun K hK => ?_)
                         refine quiet_load (by rfl) 32 (.tmp 160) rfl h rfl ms _ (range_quiet HXH.out) Tryz.underlying32 rfl HIM.out (hK _ ?_)
                         clear hK K)
                      | (refine wpQuiet_step (fun K hK => ?_)
                         refine quiet_load (by rfl) 32 (.tmp 11) rfl b rfl ms _ (range_quiet HXB.out) Tryz.underlying32 rfl HIM.out (hK _ ?_)
                         clear hK K)
                      | (refine wpQuiet_step (fun K hK => ?_)
                         refine quiet_bin (by rfl) .eql 32 (.tmp 161) (.tmp 162) 32 rfl (.bool true) (.agg ms.toArray) (.agg ms.toArray) rfl rfl HEQ.out (hK _ ?_)
                         clear hK K)
                      | quiet_step (first
                        | (go_at_call 13; exact GD.out _ _)
                        | (go_at_call 8; exact G5.out.q)))
                    refine wpQuiet_nil ?_
                    intro _ hwq
                    obtain ⟨⟨dq, osq⟩, hwr⟩ := hwq
                    subst hwr
                    go_wp2
                    go_ret
                    exact ⟨rfl, below_quiet _ _ _ _ _ HB9.out.size HB9.out⟩
theorem cpucopies_law (s d n : Int) (w : World) (hs : (Lit.int .u16 s).wf = true) (hd : (Lit.int .u16 d).wf = true) (hn : (Lit.int .i64 n).wf = true) :
    Calls Tryz.prog 5 #[.int .u16 s, .int .u16 d, .int .i64 n] w fun e w' => e = .returned (.bool true) ∧ Below w.heap.size w w' := by
  simp [Lit.wf, IntKind.min, IntKind.max, IntKind.bits, IntKind.signed] at hs hd
  obtain ⟨a, rfl⟩ := Int.eq_ofNat_of_zero_le hs.1
  obtain ⟨b, rfl⟩ := Int.eq_ofNat_of_zero_le hd.1
  exact cpucopies_body a b n w (by omega) (by omega) hn
end Go.Proofs.YtbhpmnhlmeglcaaGreat
