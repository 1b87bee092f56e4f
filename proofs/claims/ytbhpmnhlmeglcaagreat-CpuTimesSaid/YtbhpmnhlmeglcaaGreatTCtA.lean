/- cpu: what comes of a plain code's work, in one form; that something comes of each. -/
import Derived.Test.YtbhpmnhlmeglcaaGreatTBuEB
import Derived.Test.YtbhpmnhlmeglcaaGreatTBuEF
import Derived.Test.YtbhpmnhlmeglcaaGreatTBuEE
import Derived.Test.YtbhpmnhlmeglcaaGreatTBuEG
import Derived.Test.YtbhpmnhlmeglcaaGreatTFlgE
namespace Go.Proofs.YtbhpmnhlmeglcaaGreat
set_option linter.unusedSimpArgs false
set_option linter.unusedVariables false
open Go.RowKit
def Cp.co (c : Cp) : Co := ⟨c.r, c.lo, c.hi, c.ea, c.wrote⟩
def Cp.eff (c : Cp) (k : Co) : Cp := { c with r := k.r, lo := k.lo, hi := k.hi, ea := k.ea, wrote := k.wrote }
structure Co.Ok (k : Co) : Prop where
  (r : k.r.Ok) (lo : B8 k.lo) (hi : B8 k.hi) (ea : B16 k.ea)
theorem Cp.Is0.co {c : Cp} {code ix : Int} {l : List Stp} {k : Co} (h : c.Is0 code ix l k) : c.co = k := by
  have h1 := h.r; have h2 := h.lo; have h3 := h.hi; have h4 := h.ea; have h5 := h.wrote
  cases k
  simp only at h1 h2 h3 h4 h5
  unfold Cp.co
  rw [h1, h2, h3, h4, h5]
theorem Cp.Is0.eff {c : Cp} {code ix : Int} {l : List Stp} {k : Co} (h : c.Is0 code ix l k) (k' : Co) : (c.eff k').Is0 code ix l k' := ⟨rfl, rfl, rfl, rfl, rfl, h.code, h.ix, h.second, h.ahead, h.nmi, h.held, h.t0, h.n0, h.pos⟩
theorem workIs_D (wh code ix : Int) (D : Cp → Cp) (hD : ∀ c, D c = c.eff (D (c.co.cp c.code c.ix)).co) (h : ∀ c : Cp, c.Ok → c.code = code → c.ix = ix → WorkOk wh c (D c)) (k : Co) : WorkIs wh code ix k (D (k.cp code ix)).co := fun c l ho hi =>
  ⟨D c, h c ho hi.code hi.ix, by rw [hD c, hi.co, hi.code, hi.ix]; exact hi.eff _⟩
theorem Co.Ok.cp {k : Co} (h : k.Ok) {code : Int} (hc : B8 code) (ix : Int) : (k.cp code ix).Ok := by
  have z8 : B8 0 := ⟨by decide, by decide⟩
  have z16 : B16 0 := ⟨by decide, by decide⟩
  exact ⟨h.r, hc, h.lo, h.hi, h.ea, z8, z16, Int.le_refl _, Int.le_refl _, Nat.zero_le _⟩
theorem Co.is0 (k : Co) (code ix : Int) : (k.cp code ix).Is0 code ix [] k :=
  ⟨rfl, rfl, rfl, rfl, rfl, rfl, rfl, rfl, rfl, rfl, rfl, ⟨by show (0 : Int) ≤ 0; decide, by show (0 : Int) ≤ 100; decide⟩, ⟨by show (0 : Int) ≤ 0; decide, by show (0 : Int) ≤ 100; decide⟩, 0, rfl, rfl⟩
theorem WorkIs.ok {wh code ix : Int} {k k' : Co} (h : WorkIs wh code ix k k') (hc : B8 code) (hk : k.Ok) : k'.Ok := by
  obtain ⟨c', h1, h2⟩ := h _ [] (hk.cp hc ix) (k.is0 code ix)
  exact ⟨h2.r ▸ h1.1.r, h2.lo ▸ h1.1.lo, h2.hi ▸ h1.1.hi, h2.ea ▸ h1.1.ea⟩
def WorkAny (wh code : Int) : Prop := ∀ k : Co, ∃ k', WorkIs wh code 0 k k'
theorem workAny_D (wh code : Int) (D : Cp → Cp) (hD : ∀ c, D c = c.eff (D (c.co.cp c.code c.ix)).co) (h : ∀ c : Cp, c.Ok → c.code = code → WorkOk wh c (D c)) : WorkAny wh code := fun k =>
  ⟨_, workIs_D wh code 0 D hD (fun c ho hc _ => h c ho hc) k⟩
theorem b8_addW (a b f : Int) : B8 (addWF a b f) := by unfold addWF wideF; exact b8_bits _ _ _
theorem oA {r : Rg} (h : r.Ok) {v : Int} (hv : B8 v) : ({ r with a := v } : Rg).Ok := { h with a := hv }
theorem oAF {r : Rg} (h : r.Ok) {v u : Int} (hv : B8 v) (hu : B8 u) : ({ r with a := v, f := u } : Rg).Ok := { h with a := hv, f := hu }
theorem oWz {r : Rg} (h : r.Ok) {v : Int} (hv : B16 v) : ({ r with wz := v } : Rg).Ok := { h with wz := hv }
theorem oPc {r : Rg} (h : r.Ok) {v : Int} (hv : B16 v) : ({ r with pc := v } : Rg).Ok := { h with pc := hv }
theorem oSp {r : Rg} (h : r.Ok) {v : Int} (hv : B16 v) : ({ r with sp := v } : Rg).Ok := { h with sp := hv }
theorem oPW {r : Rg} (h : r.Ok) {v u : Int} (hv : B16 v) (hu : B16 u) : ({ r with pc := v, wz := u } : Rg).Ok := { h with pc := hv, wz := hu }
theorem oHalt {r : Rg} (h : r.Ok) (b : Bool) : ({ r with halt := b } : Rg).Ok := { h with }
theorem oIff {r : Rg} (h : r.Ok) (a b : Bool) : ({ r with iff1 := a, iff2 := b } : Rg).Ok := { h with }
theorem oEi {r : Rg} (h : r.Ok) (a b c : Bool) : ({ r with iff1 := a, iff2 := b, hold := c } : Rg).Ok := { h with }
theorem oExAf {r : Rg} (h : r.Ok) : r.exAf.Ok := { h with a := h.a2, a2 := h.a, f := h.f2, f2 := h.f }
theorem oExx {r : Rg} (h : r.Ok) : r.exx.Ok := { h with b := h.b2, b2 := h.b, c := h.c2, c2 := h.c, d := h.d2, d2 := h.d, e := h.e2, e2 := h.e, h := h.h2, h2 := h.h, l := h.l2, l2 := h.l }
theorem oExDe {r : Rg} (h : r.Ok) : r.exDe.Ok := { h with d := h.h, h := h.d, e := h.l, l := h.e }
theorem b16_pair {a b : Int} (ha : B8 a) (hb : B8 b) : B16 (a * 256 + b) := by
  obtain ⟨a0, a1⟩ := ha
  obtain ⟨b0, b1⟩ := hb
  exact ⟨by omega, by omega⟩
theorem ok_lo {c : Cp} (h : c.Ok) {v : Int} (hv : B8 v) : ({ c with lo := v } : Cp).Ok := ⟨h.r, h.code, hv, h.hi, h.ea, h.out, h.addr, h.at0, h.at1, h.len⟩
theorem b16_of {v : Int} (h : B8 v) : B16 v := ⟨h.1, by have := h.2; omega⟩
theorem b8_ofP (b : Int) : B8 (ofPV b) := by unfold ofPV; exact b8_with _ _ _
theorem b8_doA (k a b f : Int) (ha : B8 a) : B8 (doA k a b f) := by
  unfold doA
  repeat' split
  all_goals first | with_reducible exact ha | with_reducible exact b8_bits _ _ _ | exact b8_mod _
theorem b8_addF (a b : Int) (c : Bool) : B8 (addF a b c) := by unfold addF; exact b8_set3 _ _ _ _ _ _ _
theorem b8_subF (a b : Int) (c : Bool) : B8 (subF a b c) := by unfold subF; exact b8_set3 _ _ _ _ _ _ _
theorem b8_cpF (a b : Int) : B8 (cpF a b) := by unfold cpF; exact b8_bits _ _ _
theorem b8_doF (k a b f : Int) : B8 (doF k a b f) := by
  unfold doF
  repeat' split
  all_goals first | with_reducible exact b8_addF _ _ _ | with_reducible exact b8_subF _ _ _ | with_reducible exact b8_ofP _ | with_reducible exact b8_cpF _ _ | with_reducible exact b8_bits _ _ _
theorem ok_alued {c : Cp} (h : c.Ok) (b : Int) : (c.alued b).Ok := ok_setF (ok_withR h (oA h.r (b8_doA _ _ _ _ h.r.a))) (b8_doF _ _ _ _)
theorem ok_popped {c : Cp} (h : c.Ok) : c.poppedR.Ok := by
  have hw := word_b16 h
  obtain ⟨h0, h1⟩ := hw
  unfold Cp.poppedR
  split
  · exact oAF h.r ⟨by omega, by omega⟩ (b8_mod _)
  · exact ok_putPair h.r _ _ _ ⟨h0, h1⟩
theorem ok_acc {c : Cp} (h : c.Ok) (a f : Int) (ha : B8 a) (hf : B8 f) : ((c.withR { c.r with a := a }).setF f).Ok := ok_setF (ok_withR h (oA h.r ha)) hf
theorem any_19 (code : Int) : WorkAny 19 code := by
  have hy : code / 8 % 8 ≤ 3 ∨ code / 8 % 8 = 4 ∨ code / 8 % 8 = 5 ∨ code / 8 % 8 = 6 ∨ code / 8 % 8 = 7 := by omega
  rcases hy with hy | hy | hy | hy | hy
  · exact workAny_D 19 code (fun c => (c.withR { c.r with a := turnR (c.code / 8 % 8) c.r.a c.r.f }).setF (accF (c.code / 8 % 8) c.r.a c.r.f)) (fun _ => rfl) (fun c ho hc => workOk_c 19 (by decide) c _ (ok_acc ho _ _ (b8_turnR _ _ _) (b8_bits _ _ _)) (fun g => counts_acc g c ho _ _ (accIs_turn c ho (by rw [hc]; exact hy))))
  · exact workAny_D 19 code (fun c => (c.withR { c.r with a := daaA c.r.a c.r.f }).setF (daaF c.r.a c.r.f)) (fun _ => rfl) (fun c ho hc => workOk_c 19 (by decide) c _ (ok_acc ho _ _ (daa_b8 _ _) (b8_set3 _ _ _ _ _ _ _)) (fun g => counts_acc g c ho _ _ ⟨4, by rw [hc]; exact hy, .inl ⟨rfl, fun w => daa_any _ _ w ho.r.a⟩⟩))
  · exact workAny_D 19 code (fun c => (c.withR { c.r with a := cplA c.r.a }).setF (cplF c.r.a c.r.f)) (fun _ => rfl) (fun c ho hc => workOk_c 19 (by decide) c _ (ok_acc ho _ _ (b8_bits _ _ _) (b8_bits _ _ _)) (fun g => counts_acc g c ho _ _ (accIs_cpl c ho (by rw [hc]; exact hy))))
  · exact workAny_D 19 code (fun c => (c.withR { c.r with a := c.r.a }).setF (scfF c.r.a c.r.f c.r.q)) (fun _ => rfl) (fun c ho hc => workOk_c 19 (by decide) c _ (ok_acc ho _ _ ho.r.a (b8_bits _ _ _)) (fun g => counts_acc g c ho _ _ (accIs_scf c (by rw [hc]; exact hy))))
  · exact workAny_D 19 code (fun c => (c.withR { c.r with a := c.r.a }).setF (ccfF c.r.a c.r.f c.r.q)) (fun _ => rfl) (fun c ho hc => workOk_c 19 (by decide) c _ (ok_acc ho _ _ ho.r.a (b8_set2 _ _ _ _ _)) (fun g => counts_acc g c ho _ _ (accIs_ccf c (by rw [hc]; exact hy))))
theorem any_0 (code : Int) : WorkAny 0 code := workAny_D 0 code (fun c => c.withR (c.r.exAf)) (fun _ => rfl) (fun c ho hc => workOk_r 0 (by decide) c ho _ (oExAf ho.r) (fun g => first_exAf g c))
theorem any_1 (code : Int) : WorkAny 1 code := workAny_D 1 code (fun c => { c with r := { c.r with b := (c.r.b - 1) % 256 } }) (fun _ => rfl) (fun c ho hc => workOk_decB c ho)
theorem any_2 (code : Int) : WorkAny 2 code := workAny_D 2 code (fun c => c.jr) (fun _ => rfl) (fun c ho hc => workOk_jr c ho)
theorem any_3 (code : Int) : WorkAny 3 code := workAny_D 3 code (fun c => c.withR (c.r.putPair (c.code / 16 % 4) c.ix c.wordV)) (fun _ => rfl) (fun c ho hc => workOk_r 3 (by decide) c ho _ (ok_putPair ho.r _ _ _ (word_b16 ho)) (fun g => first_ldPair g c ho))
theorem any_4 (code : Int) : WorkAny 4 code := workAny_D 4 code (fun c => (c.withR c.addedR).setF (addWF (c.r.pair 2 c.ix) (c.r.pair (c.code / 16 % 4) c.ix) c.r.f)) (fun _ => rfl) (fun c ho hc => ⟨ok_setF (ok_withR ho (ok_putPair (oWz ho.r (b16_mod _)) _ _ _ (b16_mod _))) (b8_addW _ _ _), fun g sv w hat => work_first 4 g sv c _ w (by decide) (first_addPair g c ho w sv hat)⟩)
theorem any_5 (code : Int) : WorkAny 5 code := workAny_D 5 code (fun c => c.withR ({ c.r with wz := c.r.a * 256 + c.r.wz % 256 })) (fun _ => rfl) (fun c ho hc => workOk_r 5 (by decide) c ho _ (oWz ho.r (b16_pair ho.r.a (b8_mod _))) (fun g => first_wzA g c ho))
theorem any_6 (code : Int) : WorkAny 6 code := workAny_D 6 code (fun c => c.withR ({ c.r with wz := (c.r.wz + 1) % 65536 })) (fun _ => rfl) (fun c ho hc => workOk_r 6 (by decide) c ho _ (oWz ho.r (b16_mod _)) (fun g => first_wzNext g c))
theorem any_7 (code : Int) : WorkAny 7 code := workAny_D 7 code (fun c => c.withR ({ c.r with wz := (c.r.pair (c.code / 16 % 4) 0 + 1) % 65536 })) (fun _ => rfl) (fun c ho hc => workOk_r 7 (by decide) c ho _ (oWz ho.r (b16_mod _)) (fun g => first_wzPair g c ho))
theorem any_8 (code : Int) : WorkAny 8 code := workAny_D 8 code (fun c => c.nn) (fun _ => rfl) (fun c ho hc => workOk_nn c ho)
theorem any_9 (code : Int) : WorkAny 9 code := workAny_D 9 code (fun c => c.withR ({ c.r with a := c.lo })) (fun _ => rfl) (fun c ho hc => workOk_r 9 (by decide) c ho _ (oA ho.r ho.lo) (fun g => first_ldA g c))
theorem any_10 (code : Int) : WorkAny 10 code := workAny_D 10 code (fun c => c.withR (c.r.putPair 2 c.ix c.wordV)) (fun _ => rfl) (fun c ho hc => workOk_r 10 (by decide) c ho _ (ok_putPair ho.r _ _ _ (word_b16 ho)) (fun g => first_ldHl g c ho))
theorem any_11 (code : Int) : WorkAny 11 code := workAny_D 11 code (fun c => c.withR (c.r.putPair (c.code / 16 % 4) c.ix ((c.r.pair (c.code / 16 % 4) c.ix + 1) % 65536))) (fun _ => rfl) (fun c ho hc => workOk_r 11 (by decide) c ho _ (ok_putPair ho.r _ _ _ (b16_mod _)) (fun g => first_incPair g c ho))
theorem any_12 (code : Int) : WorkAny 12 code := workAny_D 12 code (fun c => c.withR (c.r.putPair (c.code / 16 % 4) c.ix ((c.r.pair (c.code / 16 % 4) c.ix - 1) % 65536))) (fun _ => rfl) (fun c ho hc => workOk_r 12 (by decide) c ho _ (ok_putPair ho.r _ _ _ (b16_mod _)) (fun g => first_decPair g c ho))
theorem any_13 (code : Int) : WorkAny 13 code := workAny_D 13 code (fun c => (c.withR (c.r.putByte (c.code / 8 % 8) c.ix ((c.r.byte (c.code / 8 % 8) c.ix + 1) % 256))).setF (incF (c.r.byte (c.code / 8 % 8) c.ix) c.r.f)) (fun _ => rfl) (fun c ho hc => workOk_c 13 (by decide) c _ (ok_setF (ok_withR ho (ok_putByte ho.r _ _ _ (b8_mod _))) (b8_bits _ _ _)) (fun g => counts_incReg g c ho))
theorem any_14 (code : Int) : WorkAny 14 code := workAny_D 14 code (fun c => (c.withR (c.r.putByte (c.code / 8 % 8) c.ix ((c.r.byte (c.code / 8 % 8) c.ix - 1) % 256))).setF (decF (c.r.byte (c.code / 8 % 8) c.ix) c.r.f)) (fun _ => rfl) (fun c ho hc => workOk_c 14 (by decide) c _ (ok_setF (ok_withR ho (ok_putByte ho.r _ _ _ (b8_mod _))) (b8_bits _ _ _)) (fun g => counts_decReg g c ho))
theorem any_15 (code : Int) : WorkAny 15 code := workAny_D 15 code (fun c => { c with lo := (c.lo + 1) % 256 }.setF (incF c.lo c.r.f)) (fun _ => rfl) (fun c ho hc => workOk_c 15 (by decide) c _ (ok_setF (ok_lo ho (b8_mod _)) (b8_bits _ _ _)) (fun g => counts_incLo g c ho))
theorem any_16 (code : Int) : WorkAny 16 code := workAny_D 16 code (fun c => { c with lo := (c.lo - 1) % 256 }.setF (decF c.lo c.r.f)) (fun _ => rfl) (fun c ho hc => workOk_c 16 (by decide) c _ (ok_setF (ok_lo ho (b8_mod _)) (b8_bits _ _ _)) (fun g => counts_decLo g c ho))
theorem any_17 (code : Int) : WorkAny 17 code := workAny_D 17 code (fun c => c.ldReg) (fun _ => rfl) (fun c ho hc => workOk_ldReg c ho)
theorem any_20 (code : Int) : WorkAny 20 code := workAny_D 20 code (fun c => c.withR { c.r with halt := true }) (fun _ => rfl) (fun c ho hc => workOk_c 20 (by decide) c _ (ok_withR ho (oHalt ho.r true)) (fun g => counts_halt g c))
theorem any_21 (code : Int) : WorkAny 21 code := workAny_D 21 code (fun c => c.withR (c.r.putByte (c.code / 8 % 8) c.ix (c.r.byte (c.code % 8) c.ix))) (fun _ => rfl) (fun c ho hc => workOk_c 21 (by decide) c _ (ok_withR ho (ok_putByte ho.r _ _ _ (b8_byte ho.r _ _))) (fun g => counts_ldRegs g c ho))
theorem any_22 (code : Int) : WorkAny 22 code := workAny_D 22 code (fun c => c.alued c.lo) (fun _ => rfl) (fun c ho hc => workOk_c 22 (by decide) c _ (ok_alued ho _) (fun g => counts_aluLo g c ho))
theorem any_23 (code : Int) : WorkAny 23 code := workAny_D 23 code (fun c => c.alued (c.r.byte (c.code % 8) c.ix)) (fun _ => rfl) (fun c ho hc => workOk_c 23 (by decide) c _ (ok_alued ho _) (fun g => counts_aluReg g c ho))
theorem any_24 (code : Int) : WorkAny 24 code := workAny_D 24 code (fun c => c.jump) (fun _ => rfl) (fun c ho hc => workOk_jump c ho)
theorem any_25 (code : Int) : WorkAny 25 code := workAny_D 25 code (fun c => c.withR (c.poppedR)) (fun _ => rfl) (fun c ho hc => workOk_r 25 (by decide) c ho _ (ok_popped ho) (fun g => first_popPair g c ho))
theorem any_26 (code : Int) : WorkAny 26 code := workAny_D 26 code (fun c => c.withR (c.r.exx)) (fun _ => rfl) (fun c ho hc => workOk_r 26 (by decide) c ho _ (oExx ho.r) (fun g => first_exx g c))
theorem any_27 (code : Int) : WorkAny 27 code := workAny_D 27 code (fun c => c.withR ({ c.r with pc := c.r.pair 2 c.ix })) (fun _ => rfl) (fun c ho hc => workOk_r 27 (by decide) c ho _ (oPc ho.r (pair_b16 ho.r _ _)) (fun g => first_jpHl g c ho))
theorem any_28 (code : Int) : WorkAny 28 code := workAny_D 28 code (fun c => c.withR ({ c.r with sp := c.r.pair 2 c.ix })) (fun _ => rfl) (fun c ho hc => workOk_r 28 (by decide) c ho _ (oSp ho.r (pair_b16 ho.r _ _)) (fun g => first_ldSp g c ho))
theorem any_29 (code : Int) : WorkAny 29 code := workAny_D 29 code (fun c => c.jpWz) (fun _ => rfl) (fun c ho hc => workOk_jpWz c ho)
theorem any_30 (code : Int) : WorkAny 30 code := workAny_D 30 code (fun c => c.withR ({ c.r with wz := c.r.a * 256 + c.lo })) (fun _ => rfl) (fun c ho hc => workOk_r 30 (by decide) c ho _ (oWz ho.r (b16_pair ho.r.a ho.lo)) (fun g => first_portA g c ho))
theorem any_31 (code : Int) : WorkAny 31 code := workAny_D 31 code (fun c => c.withR ({ c.r.putPair 2 c.ix c.wordV with wz := c.wordV })) (fun _ => rfl) (fun c ho hc => workOk_r 31 (by decide) c ho _ (oWz (ok_putPair ho.r 2 c.ix c.wordV (word_b16 ho)) (word_b16 ho)) (fun g => first_exSp g c ho))
theorem any_32 (code : Int) : WorkAny 32 code := workAny_D 32 code (fun c => c.withR (c.r.exDe)) (fun _ => rfl) (fun c ho hc => workOk_o 32 (by decide) c ho _ (oExDe ho.r) (fun g => other_exDe g c))
theorem any_33 (code : Int) : WorkAny 33 code := workAny_D 33 code (fun c => c.withR ({ c.r with iff1 := false, iff2 := false })) (fun _ => rfl) (fun c ho hc => workOk_o 33 (by decide) c ho _ (oIff ho.r false false) (fun g => other_di g c))
theorem any_34 (code : Int) : WorkAny 34 code := workAny_D 34 code (fun c => c.withR ({ c.r with iff1 := true, iff2 := true, hold := true })) (fun _ => rfl) (fun c ho hc => workOk_o 34 (by decide) c ho _ (oEi ho.r true true true) (fun g => other_ei g c))
theorem any_35 (code : Int) : WorkAny 35 code := workAny_D 35 code (fun c => c.withR ({ c.r with pc := bits .and .u8 c.code 56, wz := bits .and .u8 c.code 56 })) (fun _ => rfl) (fun c ho hc => workOk_o 35 (by decide) c ho _ (oPW ho.r (b16_of (b8_bits _ _ _)) (b16_of (b8_bits _ _ _))) (fun g => other_rst g c))
theorem work_each (wh code : Int) (h : 0 ≤ wh ∧ wh ≤ 35 ∧ wh ≠ 18) : WorkAny wh code := by
  have hh : wh = 0 ∨ wh = 1 ∨ wh = 2 ∨ wh = 3 ∨ wh = 4 ∨ wh = 5 ∨ wh = 6 ∨ wh = 7 ∨ wh = 8 ∨ wh = 9 ∨ wh = 10 ∨ wh = 11 ∨ wh = 12 ∨ wh = 13 ∨ wh = 14 ∨ wh = 15 ∨ wh = 16 ∨ wh = 17 ∨ wh = 19 ∨ wh = 20 ∨ wh = 21 ∨ wh = 22 ∨ wh = 23 ∨ wh = 24 ∨ wh = 25 ∨ wh = 26 ∨ wh = 27 ∨ wh = 28 ∨ wh = 29 ∨ wh = 30 ∨ wh = 31 ∨ wh = 32 ∨ wh = 33 ∨ wh = 34 ∨ wh = 35 := by omega
  rcases hh with rfl | rfl | rfl | rfl | rfl | rfl | rfl | rfl | rfl | rfl | rfl | rfl | rfl | rfl | rfl | rfl | rfl | rfl | rfl | rfl | rfl | rfl | rfl | rfl | rfl | rfl | rfl | rfl | rfl | rfl | rfl | rfl | rfl | rfl | rfl
  · exact any_0 code
  · exact any_1 code
  · exact any_2 code
  · exact any_3 code
  · exact any_4 code
  · exact any_5 code
  · exact any_6 code
  · exact any_7 code
  · exact any_8 code
  · exact any_9 code
  · exact any_10 code
  · exact any_11 code
  · exact any_12 code
  · exact any_13 code
  · exact any_14 code
  · exact any_15 code
  · exact any_16 code
  · exact any_17 code
  · exact any_19 code
  · exact any_20 code
  · exact any_21 code
  · exact any_22 code
  · exact any_23 code
  · exact any_24 code
  · exact any_25 code
  · exact any_26 code
  · exact any_27 code
  · exact any_28 code
  · exact any_29 code
  · exact any_30 code
  · exact any_31 code
  · exact any_32 code
  · exact any_33 code
  · exact any_34 code
  · exact any_35 code
end Go.Proofs.YtbhpmnhlmeglcaaGreat
