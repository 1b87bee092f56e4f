/- tzx.parser: sound, by each ID. Written by gen_rdn.py. -/
import Derived.Test.YtokidpajialgbaaQG35
namespace Go.Proofs.Ytokidpajialgbaa
set_option linter.unusedSimpArgs false
set_option linter.unusedVariables false
open Go.RowKit
set_option maxRecDepth 100000 in
set_option maxHeartbeats 4000000 in
theorem sound_16 (P R b : Nat) (A : Addr) (n c : Nat) (L : List Int) (s : Rd.St) (at_ : Int) (w : World) (h : Fill w R P b A n c L s (fresh 16)) :
    Calls Try.prog 65 #[.pointer (some ⟨P, 0, none⟩), .pointer (some ⟨b, 0, none⟩), .int .i64 at_] w (SndP R P b A n c L w (.bool true) (Rd.soundM 16 at_ L s).1 (Rd.soundM 16 at_ L s).2) := by
  have hby := h.rd.byt
  have HN0 := Lib.hid (fun u (hu : RdIs u R A n c L s) => rdNumber R A n c L s 2 u hu (by omega) (by omega))
  obtain ⟨hz0, hy0⟩ := num_range hby 2 s (by omega)
  obtain ⟨x1, t1, hM0⟩ : ∃ v t, Rd.num 2 L s = (v, t) := ⟨_, _, rfl⟩
  rw [hM0] at HN0 hz0 hy0
  simp only at hz0 hy0
  have hx0 : x1 < 65536 := hy0
  clear hy0
  have HN1 := Lib.hid (fun u (hu : RdIs u R A n c L t1) hp => tzData P R A n c L t1 2 u hu hp h.pr (by omega) (by omega))
  obtain ⟨x2, t2, hM1⟩ : ∃ v t, Rd.dataM 2 L t1 = (v, t) := ⟨_, _, rfl⟩
  rw [hM1] at HN1
  obtain ⟨T, hT⟩ : ∃ T, T = Rd.soundM 16 at_ L s := ⟨_, rfl⟩
  have hT2 : T = ({ id := 16, pause := x1, data := x2 }, t2) := by
    rw [hT]
    unfold Rd.soundM
    simp (config := { decide := true }) only [if_true, if_false, if_pos, if_neg, not_false_eq_true]
    simp only [Rd.bind, Rd.ret, Int.toNat_natCast, hM0, hM1]
  have HT := Lib.hid hT2
  rw [← hT]
  have H0 := Lib.hid h
  have hbl := h.blk.lt
  have hlt := h.lt
  have hpb := h.pb
  have p0 := h.par
  have i0 : w.cell? ⟨b, 0, none⟩ = some (.int .i64 16) := h.blk.cell 0
  have HF0 := Lib.hid h
  have HG0 : Hid (Grew2 R b w w) := grew2_of (grownBy_refl w _)
  clear h hby hT hT2 hM0 hM1
  go_enter Try.func65, Try.ntmps65
  go_wp2_with (first
    | (go_at_call 89; refine (HN1.out _ HF1s.out.rd HF1s.out.par).mono ?_; rintro e w2 ⟨v, rfl, hv, hr, hg⟩; obtain ⟨B1, d1, rfl⟩ := own_form hv; have HF2 := Lib.hid (HF1s.out.step hr hg); have HG2 := Lib.hid (HG1s.out.trans (grew2_of hg)); have HV2 := Lib.hid (hv.mono HG1s.out.size); have p2 := HF2.out.par; have c12 := HF2.out.blk.cell 12; have g12 := HF2.out.blk.frozen 12; simp only [fresh, TB.cells, nilS, List.set_cons_succ, List.set_cons_zero, List.getElem?_cons_succ, List.getElem?_cons_zero] at c12; have HF2s := Lib.hid (HF2.out.set_ 12 (.slice B1 x2.length d1)); have HG2s := Lib.hid (HG2.out.set_ 12 (.slice B1 x2.length d1)); have p2s := HF2s.out.par; have HV2s := Lib.hid (HV2.out.setCell (i := 12) (u := (.slice B1 x2.length d1)) hbl); skip)
    | (go_at_call 33; refine (HN0.out _ HF0.out.rd).mono ?_; rintro e w1 ⟨rfl, hr, hg⟩; have HF1 := Lib.hid (HF0.out.step hr hg); have HG1 := Lib.hid (HG0.out.trans (grew2_of hg)); have p1 := HF1.out.par; have c1 := HF1.out.blk.cell 1; have g1 := HF1.out.blk.frozen 1; simp only [fresh, TB.cells, nilS, List.set_cons_succ, List.set_cons_zero, List.getElem?_cons_succ, List.getElem?_cons_zero] at c1; have HF1s := Lib.hid (HF1.out.set_ 1 (.int .i64 x1)); have HG1s := Lib.hid (HG1.out.set_ 1 (.int .i64 x1)); have p1s := HF1s.out.par; skip))
  go_ret
  rw [HT.out]
  exact ⟨rfl, tbIn_of HF2s.out rfl ⟨HV2s.out, row_nil _ _ _, syms_nil _ _ _ _, syms_nil _ _ _ _, syms_nil _ _ _ _, reps_nil _ _⟩, HG2s.out⟩
set_option maxRecDepth 100000 in
set_option maxHeartbeats 4000000 in
theorem sound_17 (P R b : Nat) (A : Addr) (n c : Nat) (L : List Int) (s : Rd.St) (at_ : Int) (w : World) (h : Fill w R P b A n c L s (fresh 17)) :
    Calls Try.prog 65 #[.pointer (some ⟨P, 0, none⟩), .pointer (some ⟨b, 0, none⟩), .int .i64 at_] w (SndP R P b A n c L w (.bool true) (Rd.soundM 17 at_ L s).1 (Rd.soundM 17 at_ L s).2) := by
  have hby := h.rd.byt
  have HN0 := Lib.hid (fun u (hu : RdIs u R A n c L s) => rdNumber R A n c L s 2 u hu (by omega) (by omega))
  obtain ⟨hz0, hy0⟩ := num_range hby 2 s (by omega)
  obtain ⟨x1, t1, hM0⟩ : ∃ v t, Rd.num 2 L s = (v, t) := ⟨_, _, rfl⟩
  rw [hM0] at HN0 hz0 hy0
  simp only at hz0 hy0
  have hx0 : x1 < 65536 := hy0
  clear hy0
  have HN1 := Lib.hid (fun u (hu : RdIs u R A n c L t1) => rdNumber R A n c L t1 2 u hu (by omega) (by omega))
  obtain ⟨hz1, hy1⟩ := num_range hby 2 t1 (by omega)
  obtain ⟨x2, t2, hM1⟩ : ∃ v t, Rd.num 2 L t1 = (v, t) := ⟨_, _, rfl⟩
  rw [hM1] at HN1 hz1 hy1
  simp only at hz1 hy1
  have hx1 : x2 < 65536 := hy1
  clear hy1
  have HN2 := Lib.hid (fun u (hu : RdIs u R A n c L t2) => rdNumber R A n c L t2 2 u hu (by omega) (by omega))
  obtain ⟨hz2, hy2⟩ := num_range hby 2 t2 (by omega)
  obtain ⟨x3, t3, hM2⟩ : ∃ v t, Rd.num 2 L t2 = (v, t) := ⟨_, _, rfl⟩
  rw [hM2] at HN2 hz2 hy2
  simp only at hz2 hy2
  have hx2 : x3 < 65536 := hy2
  clear hy2
  have HN3 := Lib.hid (fun u (hu : RdIs u R A n c L t3) => rdNumber R A n c L t3 2 u hu (by omega) (by omega))
  obtain ⟨hz3, hy3⟩ := num_range hby 2 t3 (by omega)
  obtain ⟨x4, t4, hM3⟩ : ∃ v t, Rd.num 2 L t3 = (v, t) := ⟨_, _, rfl⟩
  rw [hM3] at HN3 hz3 hy3
  simp only at hz3 hy3
  have hx3 : x4 < 65536 := hy3
  clear hy3
  have HN4 := Lib.hid (fun u (hu : RdIs u R A n c L t4) => rdNumber R A n c L t4 2 u hu (by omega) (by omega))
  obtain ⟨hz4, hy4⟩ := num_range hby 2 t4 (by omega)
  obtain ⟨x5, t5, hM4⟩ : ∃ v t, Rd.num 2 L t4 = (v, t) := ⟨_, _, rfl⟩
  rw [hM4] at HN4 hz4 hy4
  simp only at hz4 hy4
  have hx4 : x5 < 65536 := hy4
  clear hy4
  have HN5 := Lib.hid (fun u (hu : RdIs u R A n c L t5) => rdNumber R A n c L t5 2 u hu (by omega) (by omega))
  obtain ⟨hz5, hy5⟩ := num_range hby 2 t5 (by omega)
  obtain ⟨x6, t6, hM5⟩ : ∃ v t, Rd.num 2 L t5 = (v, t) := ⟨_, _, rfl⟩
  rw [hM5] at HN5 hz5 hy5
  simp only at hz5 hy5
  have hx5 : x6 < 65536 := hy5
  clear hy5
  have HN6 := Lib.hid (fun u cs (hu : Fill u R P b A n c L t6 cs) hc => tzPure P R b A n c L t6 cs u hu hc)
  obtain ⟨x7, t7, hM6⟩ : ∃ v t, Rd.pureM L t6 = (v, t) := ⟨_, _, rfl⟩
  rw [hM6] at HN6
  obtain ⟨T, hT⟩ : ∃ T, T = Rd.soundM 17 at_ L s := ⟨_, rfl⟩
  have hT2 : T = ({ id := 17, pilot := x1, sync1 := x2, sync2 := x3, zero := x4, one := x5, count := x6, used := x7.1, pause := x7.2.1, data := x7.2.2 }, t7) := by
    rw [hT]
    unfold Rd.soundM
    simp (config := { decide := true }) only [if_true, if_false, if_pos, if_neg, not_false_eq_true]
    simp only [Rd.bind, Rd.ret, Int.toNat_natCast, hM0, hM1, hM2, hM3, hM4, hM5, hM6]
  have HT := Lib.hid hT2
  rw [← hT]
  have H0 := Lib.hid h
  have hbl := h.blk.lt
  have hlt := h.lt
  have hpb := h.pb
  have p0 := h.par
  have i0 : w.cell? ⟨b, 0, none⟩ = some (.int .i64 17) := h.blk.cell 0
  have HF0 := Lib.hid h
  have HG0 : Hid (Grew2 R b w w) := grew2_of (grownBy_refl w _)
  clear h hby hT hT2 hM0 hM1 hM2 hM3 hM4 hM5 hM6
  go_enter Try.func65, Try.ntmps65
  go_wp2_with (first
    | (go_at_call 90; refine (HN6.out _ _ HF6s.out rfl).mono ?_; rintro e w7 ⟨rfl, d, hF, hv, hG⟩; have HF7 := Lib.hid hF; have HG7 := Lib.hid (HG6s.out.trans hG); have HV7 := Lib.hid (hv.mono HG6s.out.size); skip)
    | (go_at_call 33; refine (HN5.out _ HF5.out.rd).mono ?_; rintro e w6 ⟨rfl, hr, hg⟩; have HF6 := Lib.hid (HF5.out.step hr hg); have HG6 := Lib.hid (HG5.out.trans (grew2_of hg)); have p6 := HF6.out.par; have c5 := HF6.out.blk.cell 5; have g5 := HF6.out.blk.frozen 5; have c6 := HF6.out.blk.cell 6; have g6 := HF6.out.blk.frozen 6; have c8 := HF6.out.blk.cell 8; have g8 := HF6.out.blk.frozen 8; simp only [fresh, TB.cells, nilS, List.set_cons_succ, List.set_cons_zero, List.getElem?_cons_succ, List.getElem?_cons_zero] at c5 c6 c8; have HF6s := Lib.hid (((HF6.out.set_ 5 (.int .i64 x4)).set_ 6 (.int .i64 x5)).set_ 8 (.int .i64 x6)); have HG6s := Lib.hid (((HG6.out.set_ 5 (.int .i64 x4)).set_ 6 (.int .i64 x5)).set_ 8 (.int .i64 x6)); have p6s := HF6s.out.par; skip)
    | (go_at_call 33; refine (HN4.out _ HF4.out.rd).mono ?_; rintro e w5 ⟨rfl, hr, hg⟩; have HF5 := Lib.hid (HF4.out.step hr hg); have HG5 := Lib.hid (HG4.out.trans (grew2_of hg)); have p5 := HF5.out.par; skip)
    | (go_at_call 33; refine (HN3.out _ HF3s.out.rd).mono ?_; rintro e w4 ⟨rfl, hr, hg⟩; have HF4 := Lib.hid (HF3s.out.step hr hg); have HG4 := Lib.hid (HG3s.out.trans (grew2_of hg)); have p4 := HF4.out.par; skip)
    | (go_at_call 33; refine (HN2.out _ HF2.out.rd).mono ?_; rintro e w3 ⟨rfl, hr, hg⟩; have HF3 := Lib.hid (HF2.out.step hr hg); have HG3 := Lib.hid (HG2.out.trans (grew2_of hg)); have p3 := HF3.out.par; have c2 := HF3.out.blk.cell 2; have g2 := HF3.out.blk.frozen 2; have c3 := HF3.out.blk.cell 3; have g3 := HF3.out.blk.frozen 3; have c4 := HF3.out.blk.cell 4; have g4 := HF3.out.blk.frozen 4; simp only [fresh, TB.cells, nilS, List.set_cons_succ, List.set_cons_zero, List.getElem?_cons_succ, List.getElem?_cons_zero] at c2 c3 c4; have HF3s := Lib.hid (((HF3.out.set_ 2 (.int .i64 x1)).set_ 3 (.int .i64 x2)).set_ 4 (.int .i64 x3)); have HG3s := Lib.hid (((HG3.out.set_ 2 (.int .i64 x1)).set_ 3 (.int .i64 x2)).set_ 4 (.int .i64 x3)); have p3s := HF3s.out.par; skip)
    | (go_at_call 33; refine (HN1.out _ HF1.out.rd).mono ?_; rintro e w2 ⟨rfl, hr, hg⟩; have HF2 := Lib.hid (HF1.out.step hr hg); have HG2 := Lib.hid (HG1.out.trans (grew2_of hg)); have p2 := HF2.out.par; skip)
    | (go_at_call 33; refine (HN0.out _ HF0.out.rd).mono ?_; rintro e w1 ⟨rfl, hr, hg⟩; have HF1 := Lib.hid (HF0.out.step hr hg); have HG1 := Lib.hid (HG0.out.trans (grew2_of hg)); have p1 := HF1.out.par; skip))
  go_ret
  rw [HT.out]
  exact ⟨rfl, tbIn_of HF7.out rfl ⟨HV7.out, row_nil _ _ _, syms_nil _ _ _ _, syms_nil _ _ _ _, syms_nil _ _ _ _, reps_nil _ _⟩, HG7.out⟩
set_option maxRecDepth 100000 in
set_option maxHeartbeats 4000000 in
theorem sound_18 (P R b : Nat) (A : Addr) (n c : Nat) (L : List Int) (s : Rd.St) (at_ : Int) (w : World) (h : Fill w R P b A n c L s (fresh 18)) :
    Calls Try.prog 65 #[.pointer (some ⟨P, 0, none⟩), .pointer (some ⟨b, 0, none⟩), .int .i64 at_] w (SndP R P b A n c L w (.bool true) (Rd.soundM 18 at_ L s).1 (Rd.soundM 18 at_ L s).2) := by
  have hby := h.rd.byt
  have HN0 := Lib.hid (fun u (hu : RdIs u R A n c L s) => rdNumber R A n c L s 2 u hu (by omega) (by omega))
  obtain ⟨hz0, hy0⟩ := num_range hby 2 s (by omega)
  obtain ⟨x1, t1, hM0⟩ : ∃ v t, Rd.num 2 L s = (v, t) := ⟨_, _, rfl⟩
  rw [hM0] at HN0 hz0 hy0
  simp only at hz0 hy0
  have hx0 : x1 < 65536 := hy0
  clear hy0
  have HN1 := Lib.hid (fun u (hu : RdIs u R A n c L t1) => rdNumber R A n c L t1 2 u hu (by omega) (by omega))
  obtain ⟨hz1, hy1⟩ := num_range hby 2 t1 (by omega)
  obtain ⟨x2, t2, hM1⟩ : ∃ v t, Rd.num 2 L t1 = (v, t) := ⟨_, _, rfl⟩
  rw [hM1] at HN1 hz1 hy1
  simp only at hz1 hy1
  have hx1 : x2 < 65536 := hy1
  clear hy1
  obtain ⟨T, hT⟩ : ∃ T, T = Rd.soundM 18 at_ L s := ⟨_, rfl⟩
  have hT2 : T = ({ id := 18, tone := x1, count := x2 }, t2) := by
    rw [hT]
    unfold Rd.soundM
    simp (config := { decide := true }) only [if_true, if_false, if_pos, if_neg, not_false_eq_true]
    simp only [Rd.bind, Rd.ret, Int.toNat_natCast, hM0, hM1]
  have HT := Lib.hid hT2
  rw [← hT]
  have H0 := Lib.hid h
  have hbl := h.blk.lt
  have hlt := h.lt
  have hpb := h.pb
  have p0 := h.par
  have i0 : w.cell? ⟨b, 0, none⟩ = some (.int .i64 18) := h.blk.cell 0
  have HF0 := Lib.hid h
  have HG0 : Hid (Grew2 R b w w) := grew2_of (grownBy_refl w _)
  clear h hby hT hT2 hM0 hM1
  go_enter Try.func65, Try.ntmps65
  go_wp2_with (first
    | (go_at_call 33; refine (HN1.out _ HF1.out.rd).mono ?_; rintro e w2 ⟨rfl, hr, hg⟩; have HF2 := Lib.hid (HF1.out.step hr hg); have HG2 := Lib.hid (HG1.out.trans (grew2_of hg)); have p2 := HF2.out.par; have c7 := HF2.out.blk.cell 7; have g7 := HF2.out.blk.frozen 7; have c8 := HF2.out.blk.cell 8; have g8 := HF2.out.blk.frozen 8; simp only [fresh, TB.cells, nilS, List.set_cons_succ, List.set_cons_zero, List.getElem?_cons_succ, List.getElem?_cons_zero] at c7 c8; have HF2s := Lib.hid ((HF2.out.set_ 7 (.int .i64 x1)).set_ 8 (.int .i64 x2)); have HG2s := Lib.hid ((HG2.out.set_ 7 (.int .i64 x1)).set_ 8 (.int .i64 x2)); have p2s := HF2s.out.par; skip)
    | (go_at_call 33; refine (HN0.out _ HF0.out.rd).mono ?_; rintro e w1 ⟨rfl, hr, hg⟩; have HF1 := Lib.hid (HF0.out.step hr hg); have HG1 := Lib.hid (HG0.out.trans (grew2_of hg)); have p1 := HF1.out.par; skip))
  go_ret
  rw [HT.out]
  exact ⟨rfl, tbIn_of HF2s.out rfl ⟨row_nil _ _ _, row_nil _ _ _, syms_nil _ _ _ _, syms_nil _ _ _ _, syms_nil _ _ _ _, reps_nil _ _⟩, HG2s.out⟩
set_option maxRecDepth 100000 in
set_option maxHeartbeats 4000000 in
theorem sound_19 (P R b : Nat) (A : Addr) (n c : Nat) (L : List Int) (s : Rd.St) (at_ : Int) (w : World) (h : Fill w R P b A n c L s (fresh 19)) :
    Calls Try.prog 65 #[.pointer (some ⟨P, 0, none⟩), .pointer (some ⟨b, 0, none⟩), .int .i64 at_] w (SndP R P b A n c L w (.bool true) (Rd.soundM 19 at_ L s).1 (Rd.soundM 19 at_ L s).2) := by
  have hby := h.rd.byt
  have HN0 := Lib.hid (fun u (hu : RdIs u R A n c L s) => rdNumber R A n c L s 1 u hu (by omega) (by omega))
  obtain ⟨hz0, hy0⟩ := num_range hby 1 s (by omega)
  obtain ⟨x1, t1, hM0⟩ : ∃ v t, Rd.num 1 L s = (v, t) := ⟨_, _, rfl⟩
  rw [hM0] at HN0 hz0 hy0
  simp only at hz0 hy0
  have hx0 : x1 < 256 := hy0
  clear hy0
  have HN1 := Lib.hid (fun u (hu : RdIs u R A n c L t1) => rdNumbers R A n c L t1 x1 2 u hu (by omega) (by omega) (by omega))
  obtain ⟨x2, t2, hM1⟩ : ∃ v t, Rd.numbers x1 2 L t1 = (v, t) := ⟨_, _, rfl⟩
  rw [hM1] at HN1
  obtain ⟨T, hT⟩ : ∃ T, T = Rd.soundM 19 at_ L s := ⟨_, rfl⟩
  have hT2 : T = ({ id := 19, times := x2 }, t2) := by
    rw [hT]
    unfold Rd.soundM
    simp (config := { decide := true }) only [if_true, if_false, if_pos, if_neg, not_false_eq_true]
    simp only [Rd.bind, Rd.ret, Int.toNat_natCast, hM0, hM1]
  have HT := Lib.hid hT2
  rw [← hT]
  have H0 := Lib.hid h
  have hbl := h.blk.lt
  have hlt := h.lt
  have hpb := h.pb
  have p0 := h.par
  have i0 : w.cell? ⟨b, 0, none⟩ = some (.int .i64 19) := h.blk.cell 0
  have HF0 := Lib.hid h
  have HG0 : Hid (Grew2 R b w w) := grew2_of (grownBy_refl w _)
  clear h hby hT hT2 hM0 hM1
  go_enter Try.func65, Try.ntmps65
  go_wp2_with (first
    | (go_at_call 91; refine (HN1.out _ HF1.out.rd).mono ?_; rintro e w2 ⟨v, rfl, hv, hr, hg⟩; obtain ⟨B1, d1, rfl⟩ := own_form hv; have HF2 := Lib.hid (HF1.out.step hr hg); have HG2 := Lib.hid (HG1.out.trans (grew2_of hg)); have HV2 := Lib.hid (hv.mono HG1.out.size); have p2 := HF2.out.par; have c13 := HF2.out.blk.cell 13; have g13 := HF2.out.blk.frozen 13; simp only [fresh, TB.cells, nilS, List.set_cons_succ, List.set_cons_zero, List.getElem?_cons_succ, List.getElem?_cons_zero] at c13; have HF2s := Lib.hid (HF2.out.set_ 13 (.slice B1 x2.length d1)); have HG2s := Lib.hid (HG2.out.set_ 13 (.slice B1 x2.length d1)); have p2s := HF2s.out.par; have HV2s := Lib.hid (HV2.out.setCell (i := 13) (u := (.slice B1 x2.length d1)) hbl); skip)
    | (go_at_call 33; refine (HN0.out _ HF0.out.rd).mono ?_; rintro e w1 ⟨rfl, hr, hg⟩; have HF1 := Lib.hid (HF0.out.step hr hg); have HG1 := Lib.hid (HG0.out.trans (grew2_of hg)); have p1 := HF1.out.par; skip))
  go_ret
  rw [HT.out]
  exact ⟨rfl, tbIn_of HF2s.out rfl ⟨row_nil _ _ _, HV2s.out, syms_nil _ _ _ _, syms_nil _ _ _ _, syms_nil _ _ _ _, reps_nil _ _⟩, HG2s.out⟩
set_option maxRecDepth 100000 in
set_option maxHeartbeats 4000000 in
theorem sound_20 (P R b : Nat) (A : Addr) (n c : Nat) (L : List Int) (s : Rd.St) (at_ : Int) (w : World) (h : Fill w R P b A n c L s (fresh 20)) :
    Calls Try.prog 65 #[.pointer (some ⟨P, 0, none⟩), .pointer (some ⟨b, 0, none⟩), .int .i64 at_] w (SndP R P b A n c L w (.bool true) (Rd.soundM 20 at_ L s).1 (Rd.soundM 20 at_ L s).2) := by
  have hby := h.rd.byt
  have HN0 := Lib.hid (fun u (hu : RdIs u R A n c L s) => rdNumber R A n c L s 2 u hu (by omega) (by omega))
  obtain ⟨hz0, hy0⟩ := num_range hby 2 s (by omega)
  obtain ⟨x1, t1, hM0⟩ : ∃ v t, Rd.num 2 L s = (v, t) := ⟨_, _, rfl⟩
  rw [hM0] at HN0 hz0 hy0
  simp only at hz0 hy0
  have hx0 : x1 < 65536 := hy0
  clear hy0
  have HN1 := Lib.hid (fun u (hu : RdIs u R A n c L t1) => rdNumber R A n c L t1 2 u hu (by omega) (by omega))
  obtain ⟨hz1, hy1⟩ := num_range hby 2 t1 (by omega)
  obtain ⟨x2, t2, hM1⟩ : ∃ v t, Rd.num 2 L t1 = (v, t) := ⟨_, _, rfl⟩
  rw [hM1] at HN1 hz1 hy1
  simp only at hz1 hy1
  have hx1 : x2 < 65536 := hy1
  clear hy1
  have HN2 := Lib.hid (fun u cs (hu : Fill u R P b A n c L t2 cs) hc => tzPure P R b A n c L t2 cs u hu hc)
  obtain ⟨x3, t3, hM2⟩ : ∃ v t, Rd.pureM L t2 = (v, t) := ⟨_, _, rfl⟩
  rw [hM2] at HN2
  obtain ⟨T, hT⟩ : ∃ T, T = Rd.soundM 20 at_ L s := ⟨_, rfl⟩
  have hT2 : T = ({ id := 20, zero := x1, one := x2, used := x3.1, pause := x3.2.1, data := x3.2.2 }, t3) := by
    rw [hT]
    unfold Rd.soundM
    simp (config := { decide := true }) only [if_true, if_false, if_pos, if_neg, not_false_eq_true]
    simp only [Rd.bind, Rd.ret, Int.toNat_natCast, hM0, hM1, hM2]
  have HT := Lib.hid hT2
  rw [← hT]
  have H0 := Lib.hid h
  have hbl := h.blk.lt
  have hlt := h.lt
  have hpb := h.pb
  have p0 := h.par
  have i0 : w.cell? ⟨b, 0, none⟩ = some (.int .i64 20) := h.blk.cell 0
  have HF0 := Lib.hid h
  have HG0 : Hid (Grew2 R b w w) := grew2_of (grownBy_refl w _)
  clear h hby hT hT2 hM0 hM1 hM2
  go_enter Try.func65, Try.ntmps65
  go_wp2_with (first
    | (go_at_call 90; refine (HN2.out _ _ HF2s.out rfl).mono ?_; rintro e w3 ⟨rfl, d, hF, hv, hG⟩; have HF3 := Lib.hid hF; have HG3 := Lib.hid (HG2s.out.trans hG); have HV3 := Lib.hid (hv.mono HG2s.out.size); skip)
    | (go_at_call 33; refine (HN1.out _ HF1.out.rd).mono ?_; rintro e w2 ⟨rfl, hr, hg⟩; have HF2 := Lib.hid (HF1.out.step hr hg); have HG2 := Lib.hid (HG1.out.trans (grew2_of hg)); have p2 := HF2.out.par; have c5 := HF2.out.blk.cell 5; have g5 := HF2.out.blk.frozen 5; have c6 := HF2.out.blk.cell 6; have g6 := HF2.out.blk.frozen 6; simp only [fresh, TB.cells, nilS, List.set_cons_succ, List.set_cons_zero, List.getElem?_cons_succ, List.getElem?_cons_zero] at c5 c6; have HF2s := Lib.hid ((HF2.out.set_ 5 (.int .i64 x1)).set_ 6 (.int .i64 x2)); have HG2s := Lib.hid ((HG2.out.set_ 5 (.int .i64 x1)).set_ 6 (.int .i64 x2)); have p2s := HF2s.out.par; skip)
    | (go_at_call 33; refine (HN0.out _ HF0.out.rd).mono ?_; rintro e w1 ⟨rfl, hr, hg⟩; have HF1 := Lib.hid (HF0.out.step hr hg); have HG1 := Lib.hid (HG0.out.trans (grew2_of hg)); have p1 := HF1.out.par; skip))
  go_ret
  rw [HT.out]
  exact ⟨rfl, tbIn_of HF3.out rfl ⟨HV3.out, row_nil _ _ _, syms_nil _ _ _ _, syms_nil _ _ _ _, syms_nil _ _ _ _, reps_nil _ _⟩, HG3.out⟩
set_option maxRecDepth 100000 in
set_option maxHeartbeats 4000000 in
theorem sound_21 (P R b : Nat) (A : Addr) (n c : Nat) (L : List Int) (s : Rd.St) (at_ : Int) (w : World) (h : Fill w R P b A n c L s (fresh 21)) :
    Calls Try.prog 65 #[.pointer (some ⟨P, 0, none⟩), .pointer (some ⟨b, 0, none⟩), .int .i64 at_] w (SndP R P b A n c L w (.bool true) (Rd.soundM 21 at_ L s).1 (Rd.soundM 21 at_ L s).2) := by
  have hby := h.rd.byt
  have HN0 := Lib.hid (fun u (hu : RdIs u R A n c L s) => rdNumber R A n c L s 2 u hu (by omega) (by omega))
  obtain ⟨hz0, hy0⟩ := num_range hby 2 s (by omega)
  obtain ⟨x1, t1, hM0⟩ : ∃ v t, Rd.num 2 L s = (v, t) := ⟨_, _, rfl⟩
  rw [hM0] at HN0 hz0 hy0
  simp only at hz0 hy0
  have hx0 : x1 < 65536 := hy0
  clear hy0
  have HN1 := Lib.hid (fun u (hu : RdIs u R A n c L t1) => rdNumber R A n c L t1 2 u hu (by omega) (by omega))
  obtain ⟨hz1, hy1⟩ := num_range hby 2 t1 (by omega)
  obtain ⟨x2, t2, hM1⟩ : ∃ v t, Rd.num 2 L t1 = (v, t) := ⟨_, _, rfl⟩
  rw [hM1] at HN1 hz1 hy1
  simp only at hz1 hy1
  have hx1 : x2 < 65536 := hy1
  clear hy1
  have HN2 := Lib.hid (fun u (hu : RdIs u R A n c L t2) => rdNumber R A n c L t2 1 u hu (by omega) (by omega))
  obtain ⟨hz2, hy2⟩ := num_range hby 1 t2 (by omega)
  obtain ⟨x3, t3, hM2⟩ : ∃ v t, Rd.num 1 L t2 = (v, t) := ⟨_, _, rfl⟩
  rw [hM2] at HN2 hz2 hy2
  simp only at hz2 hy2
  have hx2 : x3 < 256 := hy2
  clear hy2
  have HN3 := Lib.hid (fun u (hu : RdIs u R A n c L t3) hp => tzData P R A n c L t3 3 u hu hp h.pr (by omega) (by omega))
  obtain ⟨x4, t4, hM3⟩ : ∃ v t, Rd.dataM 3 L t3 = (v, t) := ⟨_, _, rfl⟩
  rw [hM3] at HN3
  obtain ⟨T, hT⟩ : ∃ T, T = Rd.soundM 21 at_ L s := ⟨_, rfl⟩
  have hT2 : T = ({ id := 21, rate := x1, pause := x2, used := x3, data := x4 }, t4) := by
    rw [hT]
    unfold Rd.soundM
    simp (config := { decide := true }) only [if_true, if_false, if_pos, if_neg, not_false_eq_true]
    simp only [Rd.bind, Rd.ret, Int.toNat_natCast, hM0, hM1, hM2, hM3]
  have HT := Lib.hid hT2
  rw [← hT]
  have H0 := Lib.hid h
  have hbl := h.blk.lt
  have hlt := h.lt
  have hpb := h.pb
  have p0 := h.par
  have i0 : w.cell? ⟨b, 0, none⟩ = some (.int .i64 21) := h.blk.cell 0
  have HF0 := Lib.hid h
  have HG0 : Hid (Grew2 R b w w) := grew2_of (grownBy_refl w _)
  clear h hby hT hT2 hM0 hM1 hM2 hM3
  go_enter Try.func65, Try.ntmps65
  go_wp2_with (first
    | (go_at_call 89; refine (HN3.out _ HF3s.out.rd HF3s.out.par).mono ?_; rintro e w4 ⟨v, rfl, hv, hr, hg⟩; obtain ⟨B3, d3, rfl⟩ := own_form hv; have HF4 := Lib.hid (HF3s.out.step hr hg); have HG4 := Lib.hid (HG3s.out.trans (grew2_of hg)); have HV4 := Lib.hid (hv.mono HG3s.out.size); have p4 := HF4.out.par; have c12 := HF4.out.blk.cell 12; have g12 := HF4.out.blk.frozen 12; simp only [fresh, TB.cells, nilS, List.set_cons_succ, List.set_cons_zero, List.getElem?_cons_succ, List.getElem?_cons_zero] at c12; have HF4s := Lib.hid (HF4.out.set_ 12 (.slice B3 x4.length d3)); have HG4s := Lib.hid (HG4.out.set_ 12 (.slice B3 x4.length d3)); have p4s := HF4s.out.par; have HV4s := Lib.hid (HV4.out.setCell (i := 12) (u := (.slice B3 x4.length d3)) hbl); skip)
    | (go_at_call 33; refine (HN2.out _ HF2.out.rd).mono ?_; rintro e w3 ⟨rfl, hr, hg⟩; have HF3 := Lib.hid (HF2.out.step hr hg); have HG3 := Lib.hid (HG2.out.trans (grew2_of hg)); have p3 := HF3.out.par; have c10 := HF3.out.blk.cell 10; have g10 := HF3.out.blk.frozen 10; have c1 := HF3.out.blk.cell 1; have g1 := HF3.out.blk.frozen 1; have c9 := HF3.out.blk.cell 9; have g9 := HF3.out.blk.frozen 9; simp only [fresh, TB.cells, nilS, List.set_cons_succ, List.set_cons_zero, List.getElem?_cons_succ, List.getElem?_cons_zero] at c10 c1 c9; have HF3s := Lib.hid (((HF3.out.set_ 10 (.int .i64 x1)).set_ 1 (.int .i64 x2)).set_ 9 (.int .i64 x3)); have HG3s := Lib.hid (((HG3.out.set_ 10 (.int .i64 x1)).set_ 1 (.int .i64 x2)).set_ 9 (.int .i64 x3)); have p3s := HF3s.out.par; skip)
    | (go_at_call 33; refine (HN1.out _ HF1.out.rd).mono ?_; rintro e w2 ⟨rfl, hr, hg⟩; have HF2 := Lib.hid (HF1.out.step hr hg); have HG2 := Lib.hid (HG1.out.trans (grew2_of hg)); have p2 := HF2.out.par; skip)
    | (go_at_call 33; refine (HN0.out _ HF0.out.rd).mono ?_; rintro e w1 ⟨rfl, hr, hg⟩; have HF1 := Lib.hid (HF0.out.step hr hg); have HG1 := Lib.hid (HG0.out.trans (grew2_of hg)); have p1 := HF1.out.par; skip))
  go_ret
  rw [HT.out]
  exact ⟨rfl, tbIn_of HF4s.out rfl ⟨HV4s.out, row_nil _ _ _, syms_nil _ _ _ _, syms_nil _ _ _ _, syms_nil _ _ _ _, reps_nil _ _⟩, HG4s.out⟩
set_option maxRecDepth 100000 in
set_option maxHeartbeats 4000000 in
theorem sound_24 (P R b : Nat) (A : Addr) (n c : Nat) (L : List Int) (s : Rd.St) (at_ : Int) (w : World) (h : Fill w R P b A n c L s (fresh 24)) :
    Calls Try.prog 65 #[.pointer (some ⟨P, 0, none⟩), .pointer (some ⟨b, 0, none⟩), .int .i64 at_] w (SndP R P b A n c L w (.bool true) (Rd.soundM 24 at_ L s).1 (Rd.soundM 24 at_ L s).2) := by
  have hby := h.rd.byt
  have HN0 := Lib.hid (tzSamples P R b A n c L s _ at_ w h rfl rfl)
  obtain ⟨x1, t1, hM0⟩ : ∃ v t, Rd.samplesM at_ L s = (v, t) := ⟨_, _, rfl⟩
  rw [hM0] at HN0
  obtain ⟨T, hT⟩ : ∃ T, T = Rd.soundM 24 at_ L s := ⟨_, rfl⟩
  have hT2 : T = ({ id := 24, pause := x1.1, rate := x1.2.1, pack := x1.2.2.1, count := x1.2.2.2.1, data := x1.2.2.2.2 }, t1) := by
    rw [hT]
    unfold Rd.soundM
    simp (config := { decide := true }) only [if_true, if_false, if_pos, if_neg, not_false_eq_true]
    simp only [Rd.bind, Rd.ret, Int.toNat_natCast, hM0]
  have HT := Lib.hid hT2
  rw [← hT]
  have H0 := Lib.hid h
  have hbl := h.blk.lt
  have hlt := h.lt
  have hpb := h.pb
  have p0 := h.par
  have i0 : w.cell? ⟨b, 0, none⟩ = some (.int .i64 24) := h.blk.cell 0
  have HF0 := Lib.hid h
  have HG0 : Hid (Grew2 R b w w) := grew2_of (grownBy_refl w _)
  clear h hby hT hT2 hM0
  go_enter Try.func65, Try.ntmps65
  go_wp2_with (first
    | (go_at_call 92; refine (HN0.out).mono ?_; rintro e w1 ⟨rfl, d, hF, hv, hG⟩; have HF1 := Lib.hid hF; have HG1 := Lib.hid (HG0.out.trans hG); have HV1 := Lib.hid hv; skip))
  go_ret
  rw [HT.out]
  exact ⟨rfl, tbIn_of HF1.out rfl ⟨HV1.out, row_nil _ _ _, syms_nil _ _ _ _, syms_nil _ _ _ _, syms_nil _ _ _ _, reps_nil _ _⟩, HG1.out⟩
set_option maxRecDepth 100000 in
set_option maxHeartbeats 4000000 in
theorem sound_25 (P R b : Nat) (A : Addr) (n c : Nat) (L : List Int) (s : Rd.St) (at_ : Int) (w : World) (h : Fill w R P b A n c L s (fresh 25)) :
    Calls Try.prog 65 #[.pointer (some ⟨P, 0, none⟩), .pointer (some ⟨b, 0, none⟩), .int .i64 at_] w (SndP R P b A n c L w (.bool true) (Rd.soundM 25 at_ L s).1 (Rd.soundM 25 at_ L s).2) := by
  have hby := h.rd.byt
  have HN0 := Lib.hid (tzGeneral P R b A n c L s 25 at_ w h)
  obtain ⟨x1, t1, hM0⟩ : ∃ v t, Rd.generalM at_ L s = (v, t) := ⟨_, _, rfl⟩
  rw [hM0] at HN0
  obtain ⟨T, hT⟩ : ∃ T, T = Rd.soundM 25 at_ L s := ⟨_, rfl⟩
  have hT2 : T = ({ id := 25, pause := x1.pa, pilot := x1.pi, sync1 := x1.sy, count := x1.co, zero := x1.ze, one := x1.on, pilots := x1.pil, syms := x1.syl, reps := x1.rl, data := x1.dat }, t1) := by
    rw [hT]
    unfold Rd.soundM
    simp (config := { decide := true }) only [if_true, if_false, if_pos, if_neg, not_false_eq_true]
    simp only [Rd.bind, Rd.ret, Int.toNat_natCast, hM0]
  have HT := Lib.hid hT2
  rw [← hT]
  have H0 := Lib.hid h
  have hbl := h.blk.lt
  have hlt := h.lt
  have hpb := h.pb
  have p0 := h.par
  have i0 : w.cell? ⟨b, 0, none⟩ = some (.int .i64 25) := h.blk.cell 0
  have HF0 := Lib.hid h
  have HG0 : Hid (Grew2 R b w w) := grew2_of (grownBy_refl w _)
  clear h hby hT hT2 hM0
  go_enter Try.func65, Try.ntmps65
  go_wp2_with (first
    | (go_at_call 93; refine (HN0.out).mono ?_; rintro e w1 ⟨rfl, d, p, y, r, hF, hv, hp, hy, hr, hG⟩; have HF1 := Lib.hid hF; have HG1 := Lib.hid (HG0.out.trans hG); have HV1 := Lib.hid hv; have HP1 := Lib.hid hp; have HY1 := Lib.hid hy; have HR1 := Lib.hid hr; skip))
  go_ret
  rw [HT.out]
  exact ⟨rfl, tbIn_of HF1.out rfl ⟨HV1.out, row_nil _ _ _, syms_nil _ _ _ _, HP1.out, HY1.out, HR1.out⟩, HG1.out⟩
set_option maxRecDepth 100000 in
set_option maxHeartbeats 4000000 in
theorem sound_32 (P R b : Nat) (A : Addr) (n c : Nat) (L : List Int) (s : Rd.St) (at_ : Int) (w : World) (h : Fill w R P b A n c L s (fresh 32)) :
    Calls Try.prog 65 #[.pointer (some ⟨P, 0, none⟩), .pointer (some ⟨b, 0, none⟩), .int .i64 at_] w (SndP R P b A n c L w (.bool true) (Rd.soundM 32 at_ L s).1 (Rd.soundM 32 at_ L s).2) := by
  have hby := h.rd.byt
  have HN0 := Lib.hid (fun u (hu : RdIs u R A n c L s) => rdNumber R A n c L s 2 u hu (by omega) (by omega))
  obtain ⟨hz0, hy0⟩ := num_range hby 2 s (by omega)
  obtain ⟨x1, t1, hM0⟩ : ∃ v t, Rd.num 2 L s = (v, t) := ⟨_, _, rfl⟩
  rw [hM0] at HN0 hz0 hy0
  simp only at hz0 hy0
  have hx0 : x1 < 65536 := hy0
  clear hy0
  obtain ⟨T, hT⟩ : ∃ T, T = Rd.soundM 32 at_ L s := ⟨_, rfl⟩
  have hT2 : T = ({ id := 32, pause := x1 }, t1) := by
    rw [hT]
    unfold Rd.soundM
    simp (config := { decide := true }) only [if_true, if_false, if_pos, if_neg, not_false_eq_true]
    simp only [Rd.bind, Rd.ret, Int.toNat_natCast, hM0]
  have HT := Lib.hid hT2
  rw [← hT]
  have H0 := Lib.hid h
  have hbl := h.blk.lt
  have hlt := h.lt
  have hpb := h.pb
  have p0 := h.par
  have i0 : w.cell? ⟨b, 0, none⟩ = some (.int .i64 32) := h.blk.cell 0
  have HF0 := Lib.hid h
  have HG0 : Hid (Grew2 R b w w) := grew2_of (grownBy_refl w _)
  clear h hby hT hT2 hM0
  go_enter Try.func65, Try.ntmps65
  go_wp2_with (first
    | (go_at_call 33; refine (HN0.out _ HF0.out.rd).mono ?_; rintro e w1 ⟨rfl, hr, hg⟩; have HF1 := Lib.hid (HF0.out.step hr hg); have HG1 := Lib.hid (HG0.out.trans (grew2_of hg)); have p1 := HF1.out.par; have c1 := HF1.out.blk.cell 1; have g1 := HF1.out.blk.frozen 1; simp only [fresh, TB.cells, nilS, List.set_cons_succ, List.set_cons_zero, List.getElem?_cons_succ, List.getElem?_cons_zero] at c1; have HF1s := Lib.hid (HF1.out.set_ 1 (.int .i64 x1)); have HG1s := Lib.hid (HG1.out.set_ 1 (.int .i64 x1)); have p1s := HF1s.out.par; skip))
  go_ret
  rw [HT.out]
  exact ⟨rfl, tbIn_of HF1s.out rfl ⟨row_nil _ _ _, row_nil _ _ _, syms_nil _ _ _ _, syms_nil _ _ _ _, syms_nil _ _ _ _, reps_nil _ _⟩, HG1s.out⟩
end Go.Proofs.Ytokidpajialgbaa
