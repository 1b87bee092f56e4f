/- tzx.parser: leads, by each ID. Written by gen_rdn.py. -/
import Derived.Test.YtokidpajialgbaaQG35
namespace Go.Proofs.Ytokidpajialgbaa
set_option linter.unusedSimpArgs false
set_option linter.unusedVariables false
open Go.RowKit
set_option maxRecDepth 100000 in
set_option maxHeartbeats 4000000 in
theorem leads_34 (P R b : Nat) (A : Addr) (n c : Nat) (L : List Int) (s : Rd.St) (at_ : Int) (w : World) (h : Fill w R P b A n c L s (fresh 34)) :
    Calls Try.prog 66 #[.pointer (some ⟨P, 0, none⟩), .pointer (some ⟨b, 0, none⟩), .int .i64 at_] w (SndP R P b A n c L w (.bool true) (Rd.leadsM 34 at_ L s).1 (Rd.leadsM 34 at_ L s).2) := by
  have hby := h.rd.byt
  obtain ⟨T, hT⟩ : ∃ T, T = Rd.leadsM 34 at_ L s := ⟨_, rfl⟩
  have hT2 : T = ({ id := 34 }, s) := by
    rw [hT]
    unfold Rd.leadsM
    simp (config := { decide := true }) only [if_true, if_false, if_pos, if_neg, not_false_eq_true]
    simp only [Rd.bind, Rd.ret, Int.toNat_natCast]
  have HT := Lib.hid hT2
  rw [← hT]
  have H0 := Lib.hid h
  have hbl := h.blk.lt
  have hlt := h.lt
  have hpb := h.pb
  have p0 := h.par
  have i0 : w.cell? ⟨b, 0, none⟩ = some (.int .i64 34) := h.blk.cell 0
  obtain ⟨u0, hu0⟩ : ∃ u0, u0 = w.alloc (.cells #[.pointer (some ⟨R, 0, none⟩)] 68) := ⟨_, rfl⟩
  have HU0 := Lib.hid hu0
  have hB0 : Below w.heap.size w u0 := by rw [hu0]; exact (Below.refl _ w).alloc (Nat.le_refl _) _
  have v0 : u0.cell? ⟨w.heap.size, 0, none⟩ = some (.pointer (some ⟨R, 0, none⟩)) := by rw [hu0]; exact (Blk.new w 68 [.pointer (some ⟨R, 0, none⟩)]).cell 0
  have HF0 := Lib.hid (h.below hB0)
  have HG0 : Hid (Grew2 R b w u0) := grew2_of (grownBy_below hB0)
  have q0 := HF0.out.par
  have j0 : u0.cell? ⟨b, 0, none⟩ = some (.int .i64 34) := HF0.out.blk.cell 0
  have hVR : w.heap.size ≠ R := by omega
  have hVb : w.heap.size ≠ b := by omega
  have hsz0 := hB0.size
  clear h hby hT hT2  hu0 hB0
  go_enter Try.func66, Try.ntmps66
  go_wp2_with fail
  go_ret
  rw [← HU0.out]
  rw [HT.out]
  exact ⟨rfl, tbIn_of HF0.out rfl ⟨row_nil _ _ _, row_nil _ _ _, syms_nil _ _ _ _, syms_nil _ _ _ _, syms_nil _ _ _ _, reps_nil _ _⟩, HG0.out⟩
set_option maxRecDepth 100000 in
set_option maxHeartbeats 4000000 in
theorem leads_37 (P R b : Nat) (A : Addr) (n c : Nat) (L : List Int) (s : Rd.St) (at_ : Int) (w : World) (h : Fill w R P b A n c L s (fresh 37)) :
    Calls Try.prog 66 #[.pointer (some ⟨P, 0, none⟩), .pointer (some ⟨b, 0, none⟩), .int .i64 at_] w (SndP R P b A n c L w (.bool true) (Rd.leadsM 37 at_ L s).1 (Rd.leadsM 37 at_ L s).2) := by
  have hby := h.rd.byt
  obtain ⟨T, hT⟩ : ∃ T, T = Rd.leadsM 37 at_ L s := ⟨_, rfl⟩
  have hT2 : T = ({ id := 37 }, s) := by
    rw [hT]
    unfold Rd.leadsM
    simp (config := { decide := true }) only [if_true, if_false, if_pos, if_neg, not_false_eq_true]
    simp only [Rd.bind, Rd.ret, Int.toNat_natCast]
  have HT := Lib.hid hT2
  rw [← hT]
  have H0 := Lib.hid h
  have hbl := h.blk.lt
  have hlt := h.lt
  have hpb := h.pb
  have p0 := h.par
  have i0 : w.cell? ⟨b, 0, none⟩ = some (.int .i64 37) := h.blk.cell 0
  obtain ⟨u0, hu0⟩ : ∃ u0, u0 = w.alloc (.cells #[.pointer (some ⟨R, 0, none⟩)] 68) := ⟨_, rfl⟩
  have HU0 := Lib.hid hu0
  have hB0 : Below w.heap.size w u0 := by rw [hu0]; exact (Below.refl _ w).alloc (Nat.le_refl _) _
  have v0 : u0.cell? ⟨w.heap.size, 0, none⟩ = some (.pointer (some ⟨R, 0, none⟩)) := by rw [hu0]; exact (Blk.new w 68 [.pointer (some ⟨R, 0, none⟩)]).cell 0
  have HF0 := Lib.hid (h.below hB0)
  have HG0 : Hid (Grew2 R b w u0) := grew2_of (grownBy_below hB0)
  have q0 := HF0.out.par
  have j0 : u0.cell? ⟨b, 0, none⟩ = some (.int .i64 37) := HF0.out.blk.cell 0
  have hVR : w.heap.size ≠ R := by omega
  have hVb : w.heap.size ≠ b := by omega
  have hsz0 := hB0.size
  clear h hby hT hT2  hu0 hB0
  go_enter Try.func66, Try.ntmps66
  go_wp2_with fail
  go_ret
  rw [← HU0.out]
  rw [HT.out]
  exact ⟨rfl, tbIn_of HF0.out rfl ⟨row_nil _ _ _, row_nil _ _ _, syms_nil _ _ _ _, syms_nil _ _ _ _, syms_nil _ _ _ _, reps_nil _ _⟩, HG0.out⟩
set_option maxRecDepth 100000 in
set_option maxHeartbeats 4000000 in
theorem leads_39 (P R b : Nat) (A : Addr) (n c : Nat) (L : List Int) (s : Rd.St) (at_ : Int) (w : World) (h : Fill w R P b A n c L s (fresh 39)) :
    Calls Try.prog 66 #[.pointer (some ⟨P, 0, none⟩), .pointer (some ⟨b, 0, none⟩), .int .i64 at_] w (SndP R P b A n c L w (.bool true) (Rd.leadsM 39 at_ L s).1 (Rd.leadsM 39 at_ L s).2) := by
  have hby := h.rd.byt
  obtain ⟨T, hT⟩ : ∃ T, T = Rd.leadsM 39 at_ L s := ⟨_, rfl⟩
  have hT2 : T = ({ id := 39 }, s) := by
    rw [hT]
    unfold Rd.leadsM
    simp (config := { decide := true }) only [if_true, if_false, if_pos, if_neg, not_false_eq_true]
    simp only [Rd.bind, Rd.ret, Int.toNat_natCast]
  have HT := Lib.hid hT2
  rw [← hT]
  have H0 := Lib.hid h
  have hbl := h.blk.lt
  have hlt := h.lt
  have hpb := h.pb
  have p0 := h.par
  have i0 : w.cell? ⟨b, 0, none⟩ = some (.int .i64 39) := h.blk.cell 0
  obtain ⟨u0, hu0⟩ : ∃ u0, u0 = w.alloc (.cells #[.pointer (some ⟨R, 0, none⟩)] 68) := ⟨_, rfl⟩
  have HU0 := Lib.hid hu0
  have hB0 : Below w.heap.size w u0 := by rw [hu0]; exact (Below.refl _ w).alloc (Nat.le_refl _) _
  have v0 : u0.cell? ⟨w.heap.size, 0, none⟩ = some (.pointer (some ⟨R, 0, none⟩)) := by rw [hu0]; exact (Blk.new w 68 [.pointer (some ⟨R, 0, none⟩)]).cell 0
  have HF0 := Lib.hid (h.below hB0)
  have HG0 : Hid (Grew2 R b w u0) := grew2_of (grownBy_below hB0)
  have q0 := HF0.out.par
  have j0 : u0.cell? ⟨b, 0, none⟩ = some (.int .i64 39) := HF0.out.blk.cell 0
  have hVR : w.heap.size ≠ R := by omega
  have hVb : w.heap.size ≠ b := by omega
  have hsz0 := hB0.size
  clear h hby hT hT2  hu0 hB0
  go_enter Try.func66, Try.ntmps66
  go_wp2_with fail
  go_ret
  rw [← HU0.out]
  rw [HT.out]
  exact ⟨rfl, tbIn_of HF0.out rfl ⟨row_nil _ _ _, row_nil _ _ _, syms_nil _ _ _ _, syms_nil _ _ _ _, syms_nil _ _ _ _, reps_nil _ _⟩, HG0.out⟩
set_option maxRecDepth 100000 in
set_option maxHeartbeats 4000000 in
theorem leads_35 (P R b : Nat) (A : Addr) (n c : Nat) (L : List Int) (s : Rd.St) (at_ : Int) (w : World) (h : Fill w R P b A n c L s (fresh 35)) :
    Calls Try.prog 66 #[.pointer (some ⟨P, 0, none⟩), .pointer (some ⟨b, 0, none⟩), .int .i64 at_] w (SndP R P b A n c L w (.bool true) (Rd.leadsM 35 at_ L s).1 (Rd.leadsM 35 at_ L s).2) := by
  have hby := h.rd.byt
  have HN0 := Lib.hid (fun u (hu : RdIs u R A n c L s) hp => tzSigned P R A n c L s 1 u hu hp h.pr (by omega))
  obtain ⟨x1, t1, hM0⟩ : ∃ v t, Rd.signedM 1 L s = (v, t) := ⟨_, _, rfl⟩
  rw [hM0] at HN0
  obtain ⟨T, hT⟩ : ∃ T, T = Rd.leadsM 35 at_ L s := ⟨_, rfl⟩
  have hT2 : T = ({ id := 35, times := x1 }, t1) := by
    rw [hT]
    unfold Rd.leadsM
    simp (config := { decide := true }) only [if_true, if_false, if_pos, if_neg, not_false_eq_true]
    simp only [Rd.bind, Rd.ret, Int.toNat_natCast, hM0]
  have HT := Lib.hid hT2
  rw [← hT]
  have H0 := Lib.hid h
  have hbl := h.blk.lt
  have hlt := h.lt
  have hpb := h.pb
  have p0 := h.par
  have i0 : w.cell? ⟨b, 0, none⟩ = some (.int .i64 35) := h.blk.cell 0
  obtain ⟨u0, hu0⟩ : ∃ u0, u0 = w.alloc (.cells #[.pointer (some ⟨R, 0, none⟩)] 68) := ⟨_, rfl⟩
  have HU0 := Lib.hid hu0
  have hB0 : Below w.heap.size w u0 := by rw [hu0]; exact (Below.refl _ w).alloc (Nat.le_refl _) _
  have v0 : u0.cell? ⟨w.heap.size, 0, none⟩ = some (.pointer (some ⟨R, 0, none⟩)) := by rw [hu0]; exact (Blk.new w 68 [.pointer (some ⟨R, 0, none⟩)]).cell 0
  have HF0 := Lib.hid (h.below hB0)
  have HG0 : Hid (Grew2 R b w u0) := grew2_of (grownBy_below hB0)
  have q0 := HF0.out.par
  have j0 : u0.cell? ⟨b, 0, none⟩ = some (.int .i64 35) := HF0.out.blk.cell 0
  have hVR : w.heap.size ≠ R := by omega
  have hVb : w.heap.size ≠ b := by omega
  have hsz0 := hB0.size
  clear h hby hT hT2 hM0 hu0 hB0
  go_enter Try.func66, Try.ntmps66
  go_wp2_with (first
    | (go_at_call 94; rw [← HU0.out]; refine (HN0.out _ HF0.out.rd HF0.out.par).mono ?_; rintro e w1 ⟨v, rfl, hv, hr, hg⟩; obtain ⟨B0, d0, rfl⟩ := own_form hv; have HF1 := Lib.hid (HF0.out.step hr hg); have HG1 := Lib.hid (HG0.out.trans (grew2_of hg)); have HV1 := Lib.hid (hv.mono HG0.out.size); have v1 := par_grown v0 hVR hg; have p1 := HF1.out.par; have c13 := HF1.out.blk.cell 13; have g13 := HF1.out.blk.frozen 13; simp only [fresh, TB.cells, nilS, List.set_cons_succ, List.set_cons_zero, List.getElem?_cons_succ, List.getElem?_cons_zero] at c13; have HF1s := Lib.hid (HF1.out.set_ 13 (.slice B0 x1.length d0)); have HG1s := Lib.hid (HG1.out.set_ 13 (.slice B0 x1.length d0)); have p1s := HF1s.out.par; have v1s := (set_far (u := (.slice B0 x1.length d0)) (j := 13) v1 hVb); have HV1s := Lib.hid (HV1.out.setCell (i := 13) (u := (.slice B0 x1.length d0)) hbl); skip))
  go_ret
  rw [HT.out]
  exact ⟨rfl, tbIn_of HF1s.out rfl ⟨row_nil _ _ _, HV1s.out, syms_nil _ _ _ _, syms_nil _ _ _ _, syms_nil _ _ _ _, reps_nil _ _⟩, HG1s.out⟩
set_option maxRecDepth 100000 in
set_option maxHeartbeats 4000000 in
theorem leads_36 (P R b : Nat) (A : Addr) (n c : Nat) (L : List Int) (s : Rd.St) (at_ : Int) (w : World) (h : Fill w R P b A n c L s (fresh 36)) :
    Calls Try.prog 66 #[.pointer (some ⟨P, 0, none⟩), .pointer (some ⟨b, 0, none⟩), .int .i64 at_] w (SndP R P b A n c L w (.bool true) (Rd.leadsM 36 at_ L s).1 (Rd.leadsM 36 at_ L s).2) := by
  have hby := h.rd.byt
  have HN0 := Lib.hid (fun u (hu : RdIs u R A n c L s) => rdNumber R A n c L s 2 u hu (by omega) (by omega))
  obtain ⟨hz0, hy0⟩ := num_range hby 2 s (by omega)
  obtain ⟨x1, t1, hM0⟩ : ∃ v t, Rd.num 2 L s = (v, t) := ⟨_, _, rfl⟩
  rw [hM0] at HN0 hz0 hy0
  simp only at hz0 hy0
  have hx0 : x1 < 65536 := hy0
  clear hy0
  obtain ⟨T, hT⟩ : ∃ T, T = Rd.leadsM 36 at_ L s := ⟨_, rfl⟩
  have hT2 : T = ({ id := 36, count := x1 }, t1) := by
    rw [hT]
    unfold Rd.leadsM
    simp (config := { decide := true }) only [if_true, if_false, if_pos, if_neg, not_false_eq_true]
    simp only [Rd.bind, Rd.ret, Int.toNat_natCast, hM0]
  have HT := Lib.hid hT2
  rw [← hT]
  have H0 := Lib.hid h
  have hbl := h.blk.lt
  have hlt := h.lt
  have hpb := h.pb
  have p0 := h.par
  have i0 : w.cell? ⟨b, 0, none⟩ = some (.int .i64 36) := h.blk.cell 0
  obtain ⟨u0, hu0⟩ : ∃ u0, u0 = w.alloc (.cells #[.pointer (some ⟨R, 0, none⟩)] 68) := ⟨_, rfl⟩
  have HU0 := Lib.hid hu0
  have hB0 : Below w.heap.size w u0 := by rw [hu0]; exact (Below.refl _ w).alloc (Nat.le_refl _) _
  have v0 : u0.cell? ⟨w.heap.size, 0, none⟩ = some (.pointer (some ⟨R, 0, none⟩)) := by rw [hu0]; exact (Blk.new w 68 [.pointer (some ⟨R, 0, none⟩)]).cell 0
  have HF0 := Lib.hid (h.below hB0)
  have HG0 : Hid (Grew2 R b w u0) := grew2_of (grownBy_below hB0)
  have q0 := HF0.out.par
  have j0 : u0.cell? ⟨b, 0, none⟩ = some (.int .i64 36) := HF0.out.blk.cell 0
  have hVR : w.heap.size ≠ R := by omega
  have hVb : w.heap.size ≠ b := by omega
  have hsz0 := hB0.size
  clear h hby hT hT2 hM0 hu0 hB0
  go_enter Try.func66, Try.ntmps66
  go_wp2_with (first
    | (go_at_call 33; rw [← HU0.out]; refine (HN0.out _ HF0.out.rd).mono ?_; rintro e w1 ⟨rfl, hr, hg⟩; have HF1 := Lib.hid (HF0.out.step hr hg); have HG1 := Lib.hid (HG0.out.trans (grew2_of hg)); have v1 := par_grown v0 hVR hg; have p1 := HF1.out.par; have c8 := HF1.out.blk.cell 8; have g8 := HF1.out.blk.frozen 8; simp only [fresh, TB.cells, nilS, List.set_cons_succ, List.set_cons_zero, List.getElem?_cons_succ, List.getElem?_cons_zero] at c8; have HF1s := Lib.hid (HF1.out.set_ 8 (.int .i64 x1)); have HG1s := Lib.hid (HG1.out.set_ 8 (.int .i64 x1)); have p1s := HF1s.out.par; have v1s := (set_far (u := (.int .i64 x1)) (j := 8) v1 hVb); skip))
  go_ret
  rw [HT.out]
  exact ⟨rfl, tbIn_of HF1s.out rfl ⟨row_nil _ _ _, row_nil _ _ _, syms_nil _ _ _ _, syms_nil _ _ _ _, syms_nil _ _ _ _, reps_nil _ _⟩, HG1s.out⟩
set_option maxRecDepth 100000 in
set_option maxHeartbeats 4000000 in
theorem leads_38 (P R b : Nat) (A : Addr) (n c : Nat) (L : List Int) (s : Rd.St) (at_ : Int) (w : World) (h : Fill w R P b A n c L s (fresh 38)) :
    Calls Try.prog 66 #[.pointer (some ⟨P, 0, none⟩), .pointer (some ⟨b, 0, none⟩), .int .i64 at_] w (SndP R P b A n c L w (.bool true) (Rd.leadsM 38 at_ L s).1 (Rd.leadsM 38 at_ L s).2) := by
  have hby := h.rd.byt
  have HN0 := Lib.hid (fun u (hu : RdIs u R A n c L s) => rdNumber R A n c L s 2 u hu (by omega) (by omega))
  obtain ⟨hz0, hy0⟩ := num_range hby 2 s (by omega)
  obtain ⟨x1, t1, hM0⟩ : ∃ v t, Rd.num 2 L s = (v, t) := ⟨_, _, rfl⟩
  rw [hM0] at HN0 hz0 hy0
  simp only at hz0 hy0
  have hx0 : x1 < 65536 := hy0
  clear hy0
  obtain ⟨y1, rfl⟩ := Int.eq_ofNat_of_zero_le hz0
  have HN1 := Lib.hid (fun u (hu : RdIs u R A n c L t1) hp => tzSigned P R A n c L t1 y1 u hu hp h.pr (by omega))
  obtain ⟨x2, t2, hM1⟩ : ∃ v t, Rd.signedM y1 L t1 = (v, t) := ⟨_, _, rfl⟩
  rw [hM1] at HN1
  obtain ⟨T, hT⟩ : ∃ T, T = Rd.leadsM 38 at_ L s := ⟨_, rfl⟩
  have hT2 : T = ({ id := 38, times := x2 }, t2) := by
    rw [hT]
    unfold Rd.leadsM
    simp (config := { decide := true }) only [if_true, if_false, if_pos, if_neg, not_false_eq_true]
    simp only [Rd.bind, Rd.ret, Int.toNat_natCast, hM0, hM1]
  have HT := Lib.hid hT2
  rw [← hT]
  have H0 := Lib.hid h
  have hbl := h.blk.lt
  have hlt := h.lt
  have hpb := h.pb
  have p0 := h.par
  have i0 : w.cell? ⟨b, 0, none⟩ = some (.int .i64 38) := h.blk.cell 0
  obtain ⟨u0, hu0⟩ : ∃ u0, u0 = w.alloc (.cells #[.pointer (some ⟨R, 0, none⟩)] 68) := ⟨_, rfl⟩
  have HU0 := Lib.hid hu0
  have hB0 : Below w.heap.size w u0 := by rw [hu0]; exact (Below.refl _ w).alloc (Nat.le_refl _) _
  have v0 : u0.cell? ⟨w.heap.size, 0, none⟩ = some (.pointer (some ⟨R, 0, none⟩)) := by rw [hu0]; exact (Blk.new w 68 [.pointer (some ⟨R, 0, none⟩)]).cell 0
  have HF0 := Lib.hid (h.below hB0)
  have HG0 : Hid (Grew2 R b w u0) := grew2_of (grownBy_below hB0)
  have q0 := HF0.out.par
  have j0 : u0.cell? ⟨b, 0, none⟩ = some (.int .i64 38) := HF0.out.blk.cell 0
  have hVR : w.heap.size ≠ R := by omega
  have hVb : w.heap.size ≠ b := by omega
  have hsz0 := hB0.size
  clear h hby hT hT2 hM0 hM1 hu0 hB0
  go_enter Try.func66, Try.ntmps66
  go_wp2_with (first
    | (go_at_call 94; refine (HN1.out _ HF1.out.rd HF1.out.par).mono ?_; rintro e w2 ⟨v, rfl, hv, hr, hg⟩; obtain ⟨B1, d1, rfl⟩ := own_form hv; have HF2 := Lib.hid (HF1.out.step hr hg); have HG2 := Lib.hid (HG1.out.trans (grew2_of hg)); have HV2 := Lib.hid (hv.mono HG1.out.size); have v2 := par_grown v1 hVR hg; have p2 := HF2.out.par; have c13 := HF2.out.blk.cell 13; have g13 := HF2.out.blk.frozen 13; simp only [fresh, TB.cells, nilS, List.set_cons_succ, List.set_cons_zero, List.getElem?_cons_succ, List.getElem?_cons_zero] at c13; have HF2s := Lib.hid (HF2.out.set_ 13 (.slice B1 x2.length d1)); have HG2s := Lib.hid (HG2.out.set_ 13 (.slice B1 x2.length d1)); have p2s := HF2s.out.par; have v2s := (set_far (u := (.slice B1 x2.length d1)) (j := 13) v2 hVb); have HV2s := Lib.hid (HV2.out.setCell (i := 13) (u := (.slice B1 x2.length d1)) hbl); skip)
    | (go_at_call 33; rw [← HU0.out]; refine (HN0.out _ HF0.out.rd).mono ?_; rintro e w1 ⟨rfl, hr, hg⟩; have HF1 := Lib.hid (HF0.out.step hr hg); have HG1 := Lib.hid (HG0.out.trans (grew2_of hg)); have v1 := par_grown v0 hVR hg; have p1 := HF1.out.par; skip))
  go_ret
  rw [HT.out]
  exact ⟨rfl, tbIn_of HF2s.out rfl ⟨row_nil _ _ _, HV2s.out, syms_nil _ _ _ _, syms_nil _ _ _ _, syms_nil _ _ _ _, reps_nil _ _⟩, HG2s.out⟩
set_option maxRecDepth 100000 in
set_option maxHeartbeats 4000000 in
theorem leads_40 (P R b : Nat) (A : Addr) (n c : Nat) (L : List Int) (s : Rd.St) (at_ : Int) (w : World) (h : Fill w R P b A n c L s (fresh 40)) :
    Calls Try.prog 66 #[.pointer (some ⟨P, 0, none⟩), .pointer (some ⟨b, 0, none⟩), .int .i64 at_] w (SndP R P b A n c L w (.bool true) (Rd.leadsM 40 at_ L s).1 (Rd.leadsM 40 at_ L s).2) := by
  have hby := h.rd.byt
  have HN0 := Lib.hid (fun u V (hu : RdIs u R A n c L s) hp hv hvr => tzItemsS P R V A n c L s at_ u hu hp h.pr hv hvr)
  obtain ⟨x1, t1, hM0⟩ : ∃ v t, Rd.itemsM Rd.signed at_ L s = (v, t) := ⟨_, _, rfl⟩
  rw [hM0] at HN0
  obtain ⟨T, hT⟩ : ∃ T, T = Rd.leadsM 40 at_ L s := ⟨_, rfl⟩
  have hT2 : T = ({ id := 40, items := x1 }, t1) := by
    rw [hT]
    unfold Rd.leadsM
    simp (config := { decide := true }) only [if_true, if_false, if_pos, if_neg, not_false_eq_true]
    simp only [Rd.bind, Rd.ret, Int.toNat_natCast, hM0]
  have HT := Lib.hid hT2
  rw [← hT]
  have H0 := Lib.hid h
  have hbl := h.blk.lt
  have hlt := h.lt
  have hpb := h.pb
  have p0 := h.par
  have i0 : w.cell? ⟨b, 0, none⟩ = some (.int .i64 40) := h.blk.cell 0
  obtain ⟨u0, hu0⟩ : ∃ u0, u0 = w.alloc (.cells #[.pointer (some ⟨R, 0, none⟩)] 68) := ⟨_, rfl⟩
  have HU0 := Lib.hid hu0
  have hB0 : Below w.heap.size w u0 := by rw [hu0]; exact (Below.refl _ w).alloc (Nat.le_refl _) _
  have v0 : u0.cell? ⟨w.heap.size, 0, none⟩ = some (.pointer (some ⟨R, 0, none⟩)) := by rw [hu0]; exact (Blk.new w 68 [.pointer (some ⟨R, 0, none⟩)]).cell 0
  have HF0 := Lib.hid (h.below hB0)
  have HG0 : Hid (Grew2 R b w u0) := grew2_of (grownBy_below hB0)
  have q0 := HF0.out.par
  have j0 : u0.cell? ⟨b, 0, none⟩ = some (.int .i64 40) := HF0.out.blk.cell 0
  have hVR : w.heap.size ≠ R := by omega
  have hVb : w.heap.size ≠ b := by omega
  have hsz0 := hB0.size
  clear h hby hT hT2 hM0 hu0 hB0
  go_enter Try.func66, Try.ntmps66
  go_wp2_with (first
    | (go_at_call 95; rw [← HU0.out]; refine (HN0.out _ w.heap.size HF0.out.rd HF0.out.par v0 hVR).mono ?_; rintro e w1 ⟨v, rfl, hv, hr, hg⟩; obtain ⟨B0, d0, rfl⟩ := syms_form hv; have HF1 := Lib.hid (HF0.out.step hr hg); have HG1 := Lib.hid (HG0.out.trans (grew2_of hg)); have HV1 := Lib.hid (hv.mono HG0.out.size); have v1 := par_grown v0 hVR hg; have p1 := HF1.out.par; have c14 := HF1.out.blk.cell 14; have g14 := HF1.out.blk.frozen 14; simp only [fresh, TB.cells, nilS, List.set_cons_succ, List.set_cons_zero, List.getElem?_cons_succ, List.getElem?_cons_zero] at c14; have HF1s := Lib.hid (HF1.out.set_ 14 (.slice B0 x1.length d0)); have HG1s := Lib.hid (HG1.out.set_ 14 (.slice B0 x1.length d0)); have p1s := HF1s.out.par; have v1s := (set_far (u := (.slice B0 x1.length d0)) (j := 14) v1 hVb); have HV1s := Lib.hid (HV1.out.setCell (i := 14) (u := (.slice B0 x1.length d0)) hbl); skip))
  go_ret
  rw [HT.out]
  exact ⟨rfl, tbIn_of HF1s.out rfl ⟨row_nil _ _ _, row_nil _ _ _, HV1s.out, syms_nil _ _ _ _, syms_nil _ _ _ _, reps_nil _ _⟩, HG1s.out⟩
set_option maxRecDepth 100000 in
set_option maxHeartbeats 4000000 in
theorem leads_42 (P R b : Nat) (A : Addr) (n c : Nat) (L : List Int) (s : Rd.St) (at_ : Int) (w : World) (h : Fill w R P b A n c L s (fresh 42)) :
    Calls Try.prog 66 #[.pointer (some ⟨P, 0, none⟩), .pointer (some ⟨b, 0, none⟩), .int .i64 at_] w (SndP R P b A n c L w (.bool true) (Rd.leadsM 42 at_ L s).1 (Rd.leadsM 42 at_ L s).2) := by
  have hby := h.rd.byt
  have HN0 := Lib.hid (fun u (hu : RdIs u R A n c L s) hp => tzFixed P R A n c L s 0 u hu hp h.pr)
  obtain ⟨x1, t1, hM0⟩ : ∃ v t, Rd.fixed 0 L s = (v, t) := ⟨_, _, rfl⟩
  rw [hM0] at HN0
  obtain ⟨T, hT⟩ : ∃ T, T = Rd.leadsM 42 at_ L s := ⟨_, rfl⟩
  have hT2 : T = ({ id := 42 }, t1) := by
    rw [hT]
    unfold Rd.leadsM
    simp (config := { decide := true }) only [if_true, if_false, if_pos, if_neg, not_false_eq_true]
    simp only [Rd.bind, Rd.ret, Int.toNat_natCast, hM0]
  have HT := Lib.hid hT2
  rw [← hT]
  have H0 := Lib.hid h
  have hbl := h.blk.lt
  have hlt := h.lt
  have hpb := h.pb
  have p0 := h.par
  have i0 : w.cell? ⟨b, 0, none⟩ = some (.int .i64 42) := h.blk.cell 0
  obtain ⟨u0, hu0⟩ : ∃ u0, u0 = w.alloc (.cells #[.pointer (some ⟨R, 0, none⟩)] 68) := ⟨_, rfl⟩
  have HU0 := Lib.hid hu0
  have hB0 : Below w.heap.size w u0 := by rw [hu0]; exact (Below.refl _ w).alloc (Nat.le_refl _) _
  have v0 : u0.cell? ⟨w.heap.size, 0, none⟩ = some (.pointer (some ⟨R, 0, none⟩)) := by rw [hu0]; exact (Blk.new w 68 [.pointer (some ⟨R, 0, none⟩)]).cell 0
  have HF0 := Lib.hid (h.below hB0)
  have HG0 : Hid (Grew2 R b w u0) := grew2_of (grownBy_below hB0)
  have q0 := HF0.out.par
  have j0 : u0.cell? ⟨b, 0, none⟩ = some (.int .i64 42) := HF0.out.blk.cell 0
  have hVR : w.heap.size ≠ R := by omega
  have hVb : w.heap.size ≠ b := by omega
  have hsz0 := hB0.size
  clear h hby hT hT2 hM0 hu0 hB0
  go_enter Try.func66, Try.ntmps66
  go_wp2_with (first
    | (go_at_call 98; rw [← HU0.out]; refine (HN0.out _ HF0.out.rd HF0.out.par).mono ?_; rintro e w1 ⟨rfl, hr, hg⟩; have HF1 := Lib.hid (HF0.out.step hr hg); have HG1 := Lib.hid (HG0.out.trans (grew2_of hg)); have v1 := par_grown v0 hVR hg; have p1 := HF1.out.par; skip))
  go_ret
  rw [HT.out]
  exact ⟨rfl, tbIn_of HF1.out rfl ⟨row_nil _ _ _, row_nil _ _ _, syms_nil _ _ _ _, syms_nil _ _ _ _, syms_nil _ _ _ _, reps_nil _ _⟩, HG1.out⟩
set_option maxRecDepth 100000 in
set_option maxHeartbeats 4000000 in
theorem leads_43 (P R b : Nat) (A : Addr) (n c : Nat) (L : List Int) (s : Rd.St) (at_ : Int) (w : World) (h : Fill w R P b A n c L s (fresh 43)) :
    Calls Try.prog 66 #[.pointer (some ⟨P, 0, none⟩), .pointer (some ⟨b, 0, none⟩), .int .i64 at_] w (SndP R P b A n c L w (.bool true) (Rd.leadsM 43 at_ L s).1 (Rd.leadsM 43 at_ L s).2) := by
  have hby := h.rd.byt
  have HN0 := Lib.hid (fun u cs (hu : Fill u R P b A n c L s cs) hc => tzLevel P R b A n c L s cs u hu hc)
  obtain ⟨x1, t1, hM0⟩ : ∃ v t, Rd.levelM L s = (v, t) := ⟨_, _, rfl⟩
  rw [hM0] at HN0
  obtain ⟨T, hT⟩ : ∃ T, T = Rd.leadsM 43 at_ L s := ⟨_, rfl⟩
  have hT2 : T = ({ id := 43, used := x1 }, t1) := by
    rw [hT]
    unfold Rd.leadsM
    simp (config := { decide := true }) only [if_true, if_false, if_pos, if_neg, not_false_eq_true]
    simp only [Rd.bind, Rd.ret, Int.toNat_natCast, hM0]
  have HT := Lib.hid hT2
  rw [← hT]
  have H0 := Lib.hid h
  have hbl := h.blk.lt
  have hlt := h.lt
  have hpb := h.pb
  have p0 := h.par
  have i0 : w.cell? ⟨b, 0, none⟩ = some (.int .i64 43) := h.blk.cell 0
  obtain ⟨u0, hu0⟩ : ∃ u0, u0 = w.alloc (.cells #[.pointer (some ⟨R, 0, none⟩)] 68) := ⟨_, rfl⟩
  have HU0 := Lib.hid hu0
  have hB0 : Below w.heap.size w u0 := by rw [hu0]; exact (Below.refl _ w).alloc (Nat.le_refl _) _
  have v0 : u0.cell? ⟨w.heap.size, 0, none⟩ = some (.pointer (some ⟨R, 0, none⟩)) := by rw [hu0]; exact (Blk.new w 68 [.pointer (some ⟨R, 0, none⟩)]).cell 0
  have HF0 := Lib.hid (h.below hB0)
  have HG0 : Hid (Grew2 R b w u0) := grew2_of (grownBy_below hB0)
  have q0 := HF0.out.par
  have j0 : u0.cell? ⟨b, 0, none⟩ = some (.int .i64 43) := HF0.out.blk.cell 0
  have hVR : w.heap.size ≠ R := by omega
  have hVb : w.heap.size ≠ b := by omega
  have hsz0 := hB0.size
  clear h hby hT hT2 hM0 hu0 hB0
  go_enter Try.func66, Try.ntmps66
  go_wp2_with (first
    | (go_at_call 99; rw [← HU0.out]; refine (HN0.out _ _ HF0.out rfl).mono ?_; rintro e w1 ⟨rfl, hF, hG⟩; have HF1 := Lib.hid hF; have HG1 := Lib.hid (HG0.out.trans hG); skip))
  go_ret
  rw [HT.out]
  exact ⟨rfl, tbIn_of HF1.out rfl ⟨row_nil _ _ _, row_nil _ _ _, syms_nil _ _ _ _, syms_nil _ _ _ _, syms_nil _ _ _ _, reps_nil _ _⟩, HG1.out⟩
end Go.Proofs.Ytokidpajialgbaa
