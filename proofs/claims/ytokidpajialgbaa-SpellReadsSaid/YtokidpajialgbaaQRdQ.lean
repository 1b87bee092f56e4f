/- tzx.parser: tells, by each ID but 51 and 53. Written by gen_rdn.py. -/
import Derived.Test.YtokidpajialgbaaQG35
namespace Go.Proofs.Ytokidpajialgbaa
set_option linter.unusedSimpArgs false
set_option linter.unusedVariables false
open Go.RowKit
set_option maxRecDepth 100000 in
set_option maxHeartbeats 4000000 in
theorem tells_33 (P R b : Nat) (A : Addr) (n c : Nat) (L : List Int) (s : Rd.St) (at_ : Int) (w : World) (h : Fill w R P b A n c L s (fresh 33)) :
    Calls Try.prog 67 #[.pointer (some ⟨P, 0, none⟩), .pointer (some ⟨b, 0, none⟩), .int .i64 at_] w (SndP R P b A n c L w (.tuple #[]) (Rd.tellsM 33 at_ L s).1 (Rd.tellsM 33 at_ L s).2) := by
  have hby := h.rd.byt
  have HN0 := Lib.hid (fun u (hu : RdIs u R A n c L s) hp => tzData P R A n c L s 1 u hu hp h.pr (by omega) (by omega))
  obtain ⟨x1, t1, hM0⟩ : ∃ v t, Rd.dataM 1 L s = (v, t) := ⟨_, _, rfl⟩
  rw [hM0] at HN0
  obtain ⟨T, hT⟩ : ∃ T, T = Rd.tellsM 33 at_ L s := ⟨_, rfl⟩
  have hT2 : T = ({ id := 33, data := x1 }, t1) := by
    rw [hT]
    unfold Rd.tellsM
    simp (config := { decide := true }) only [if_true, if_false, if_pos, if_neg, not_false_eq_true]
    simp only [Rd.bind, Rd.ret, Int.toNat_natCast, hM0]
  have HT := Lib.hid hT2
  rw [← hT]
  have H0 := Lib.hid h
  have hbl := h.blk.lt
  have hlt := h.lt
  have hpb := h.pb
  have p0 := h.par
  have i0 : w.cell? ⟨b, 0, none⟩ = some (.int .i64 33) := h.blk.cell 0
  obtain ⟨u0, hu0⟩ : ∃ u0, u0 = w.alloc (.cells #[.pointer (some ⟨R, 0, none⟩)] 68) := ⟨_, rfl⟩
  have HU0 := Lib.hid hu0
  have hB0 : Below w.heap.size w u0 := by rw [hu0]; exact (Below.refl _ w).alloc (Nat.le_refl _) _
  have v0 : u0.cell? ⟨w.heap.size, 0, none⟩ = some (.pointer (some ⟨R, 0, none⟩)) := by rw [hu0]; exact (Blk.new w 68 [.pointer (some ⟨R, 0, none⟩)]).cell 0
  have HF0 := Lib.hid (h.below hB0)
  have HG0 : Hid (Grew2 R b w u0) := grew2_of (grownBy_below hB0)
  have q0 := HF0.out.par
  have j0 : u0.cell? ⟨b, 0, none⟩ = some (.int .i64 33) := HF0.out.blk.cell 0
  have hVR : w.heap.size ≠ R := by omega
  have hVb : w.heap.size ≠ b := by omega
  have hsz0 := hB0.size
  clear h hby hT hT2 hM0 hu0 hB0
  go_enter Try.func67, Try.ntmps67
  go_wp2_with (first
    | (go_at_call 89; rw [← HU0.out]; refine (HN0.out _ HF0.out.rd HF0.out.par).mono ?_; rintro e w1 ⟨v, rfl, hv, hr, hg⟩; obtain ⟨B0, d0, rfl⟩ := own_form hv; have HF1 := Lib.hid (HF0.out.step hr hg); have HG1 := Lib.hid (HG0.out.trans (grew2_of hg)); have HV1 := Lib.hid (hv.mono HG0.out.size); have v1 := par_grown v0 hVR hg; have p1 := HF1.out.par; have c12 := HF1.out.blk.cell 12; have g12 := HF1.out.blk.frozen 12; simp only [fresh, TB.cells, nilS, List.set_cons_succ, List.set_cons_zero, List.getElem?_cons_succ, List.getElem?_cons_zero] at c12; have HF1s := Lib.hid (HF1.out.set_ 12 (.slice B0 x1.length d0)); have HG1s := Lib.hid (HG1.out.set_ 12 (.slice B0 x1.length d0)); have p1s := HF1s.out.par; have v1s := (set_far (u := (.slice B0 x1.length d0)) (j := 12) v1 hVb); have HV1s := Lib.hid (HV1.out.setCell (i := 12) (u := (.slice B0 x1.length d0)) hbl); skip))
  go_end0
  rw [HT.out]
  exact ⟨rfl, tbIn_of HF1s.out rfl ⟨HV1s.out, row_nil _ _ _, syms_nil _ _ _ _, syms_nil _ _ _ _, syms_nil _ _ _ _, reps_nil _ _⟩, HG1s.out⟩
set_option maxRecDepth 100000 in
set_option maxHeartbeats 4000000 in
theorem tells_48 (P R b : Nat) (A : Addr) (n c : Nat) (L : List Int) (s : Rd.St) (at_ : Int) (w : World) (h : Fill w R P b A n c L s (fresh 48)) :
    Calls Try.prog 67 #[.pointer (some ⟨P, 0, none⟩), .pointer (some ⟨b, 0, none⟩), .int .i64 at_] w (SndP R P b A n c L w (.tuple #[]) (Rd.tellsM 48 at_ L s).1 (Rd.tellsM 48 at_ L s).2) := by
  have hby := h.rd.byt
  have HN0 := Lib.hid (fun u (hu : RdIs u R A n c L s) hp => tzData P R A n c L s 1 u hu hp h.pr (by omega) (by omega))
  obtain ⟨x1, t1, hM0⟩ : ∃ v t, Rd.dataM 1 L s = (v, t) := ⟨_, _, rfl⟩
  rw [hM0] at HN0
  obtain ⟨T, hT⟩ : ∃ T, T = Rd.tellsM 48 at_ L s := ⟨_, rfl⟩
  have hT2 : T = ({ id := 48, data := x1 }, t1) := by
    rw [hT]
    unfold Rd.tellsM
    simp (config := { decide := true }) only [if_true, if_false, if_pos, if_neg, not_false_eq_true]
    simp only [Rd.bind, Rd.ret, Int.toNat_natCast, hM0]
  have HT := Lib.hid hT2
  rw [← hT]
  have H0 := Lib.hid h
  have hbl := h.blk.lt
  have hlt := h.lt
  have hpb := h.pb
  have p0 := h.par
  have i0 : w.cell? ⟨b, 0, none⟩ = some (.int .i64 48) := h.blk.cell 0
  obtain ⟨u0, hu0⟩ : ∃ u0, u0 = w.alloc (.cells #[.pointer (some ⟨R, 0, none⟩)] 68) := ⟨_, rfl⟩
  have HU0 := Lib.hid hu0
  have hB0 : Below w.heap.size w u0 := by rw [hu0]; exact (Below.refl _ w).alloc (Nat.le_refl _) _
  have v0 : u0.cell? ⟨w.heap.size, 0, none⟩ = some (.pointer (some ⟨R, 0, none⟩)) := by rw [hu0]; exact (Blk.new w 68 [.pointer (some ⟨R, 0, none⟩)]).cell 0
  have HF0 := Lib.hid (h.below hB0)
  have HG0 : Hid (Grew2 R b w u0) := grew2_of (grownBy_below hB0)
  have q0 := HF0.out.par
  have j0 : u0.cell? ⟨b, 0, none⟩ = some (.int .i64 48) := HF0.out.blk.cell 0
  have hVR : w.heap.size ≠ R := by omega
  have hVb : w.heap.size ≠ b := by omega
  have hsz0 := hB0.size
  clear h hby hT hT2 hM0 hu0 hB0
  go_enter Try.func67, Try.ntmps67
  go_wp2_with (first
    | (go_at_call 89; rw [← HU0.out]; refine (HN0.out _ HF0.out.rd HF0.out.par).mono ?_; rintro e w1 ⟨v, rfl, hv, hr, hg⟩; obtain ⟨B0, d0, rfl⟩ := own_form hv; have HF1 := Lib.hid (HF0.out.step hr hg); have HG1 := Lib.hid (HG0.out.trans (grew2_of hg)); have HV1 := Lib.hid (hv.mono HG0.out.size); have v1 := par_grown v0 hVR hg; have p1 := HF1.out.par; have c12 := HF1.out.blk.cell 12; have g12 := HF1.out.blk.frozen 12; simp only [fresh, TB.cells, nilS, List.set_cons_succ, List.set_cons_zero, List.getElem?_cons_succ, List.getElem?_cons_zero] at c12; have HF1s := Lib.hid (HF1.out.set_ 12 (.slice B0 x1.length d0)); have HG1s := Lib.hid (HG1.out.set_ 12 (.slice B0 x1.length d0)); have p1s := HF1s.out.par; have v1s := (set_far (u := (.slice B0 x1.length d0)) (j := 12) v1 hVb); have HV1s := Lib.hid (HV1.out.setCell (i := 12) (u := (.slice B0 x1.length d0)) hbl); skip))
  go_end0
  rw [HT.out]
  exact ⟨rfl, tbIn_of HF1s.out rfl ⟨HV1s.out, row_nil _ _ _, syms_nil _ _ _ _, syms_nil _ _ _ _, syms_nil _ _ _ _, reps_nil _ _⟩, HG1s.out⟩
set_option maxRecDepth 100000 in
set_option maxHeartbeats 4000000 in
theorem tells_49 (P R b : Nat) (A : Addr) (n c : Nat) (L : List Int) (s : Rd.St) (at_ : Int) (w : World) (h : Fill w R P b A n c L s (fresh 49)) :
    Calls Try.prog 67 #[.pointer (some ⟨P, 0, none⟩), .pointer (some ⟨b, 0, none⟩), .int .i64 at_] w (SndP R P b A n c L w (.tuple #[]) (Rd.tellsM 49 at_ L s).1 (Rd.tellsM 49 at_ L s).2) := by
  have hby := h.rd.byt
  have HN0 := Lib.hid (fun u (hu : RdIs u R A n c L s) => rdNumber R A n c L s 1 u hu (by omega) (by omega))
  obtain ⟨hz0, hy0⟩ := num_range hby 1 s (by omega)
  obtain ⟨x1, t1, hM0⟩ : ∃ v t, Rd.num 1 L s = (v, t) := ⟨_, _, rfl⟩
  rw [hM0] at HN0 hz0 hy0
  simp only at hz0 hy0
  have hx0 : x1 < 256 := hy0
  clear hy0
  have HN1 := Lib.hid (fun u (hu : RdIs u R A n c L t1) hp => tzData P R A n c L t1 1 u hu hp h.pr (by omega) (by omega))
  obtain ⟨x2, t2, hM1⟩ : ∃ v t, Rd.dataM 1 L t1 = (v, t) := ⟨_, _, rfl⟩
  rw [hM1] at HN1
  obtain ⟨T, hT⟩ : ∃ T, T = Rd.tellsM 49 at_ L s := ⟨_, rfl⟩
  have hT2 : T = ({ id := 49, count := x1, data := x2 }, t2) := by
    rw [hT]
    unfold Rd.tellsM
    simp (config := { decide := true }) only [if_true, if_false, if_pos, if_neg, not_false_eq_true]
    simp only [Rd.bind, Rd.ret, Int.toNat_natCast, hM0, hM1]
  have HT := Lib.hid hT2
  rw [← hT]
  have H0 := Lib.hid h
  have hbl := h.blk.lt
  have hlt := h.lt
  have hpb := h.pb
  have p0 := h.par
  have i0 : w.cell? ⟨b, 0, none⟩ = some (.int .i64 49) := h.blk.cell 0
  obtain ⟨u0, hu0⟩ : ∃ u0, u0 = w.alloc (.cells #[.pointer (some ⟨R, 0, none⟩)] 68) := ⟨_, rfl⟩
  have HU0 := Lib.hid hu0
  have hB0 : Below w.heap.size w u0 := by rw [hu0]; exact (Below.refl _ w).alloc (Nat.le_refl _) _
  have v0 : u0.cell? ⟨w.heap.size, 0, none⟩ = some (.pointer (some ⟨R, 0, none⟩)) := by rw [hu0]; exact (Blk.new w 68 [.pointer (some ⟨R, 0, none⟩)]).cell 0
  have HF0 := Lib.hid (h.below hB0)
  have HG0 : Hid (Grew2 R b w u0) := grew2_of (grownBy_below hB0)
  have q0 := HF0.out.par
  have j0 : u0.cell? ⟨b, 0, none⟩ = some (.int .i64 49) := HF0.out.blk.cell 0
  have hVR : w.heap.size ≠ R := by omega
  have hVb : w.heap.size ≠ b := by omega
  have hsz0 := hB0.size
  clear h hby hT hT2 hM0 hM1 hu0 hB0
  go_enter Try.func67, Try.ntmps67
  go_wp2_with (first
    | (go_at_call 89; refine (HN1.out _ HF1s.out.rd HF1s.out.par).mono ?_; rintro e w2 ⟨v, rfl, hv, hr, hg⟩; obtain ⟨B1, d1, rfl⟩ := own_form hv; have HF2 := Lib.hid (HF1s.out.step hr hg); have HG2 := Lib.hid (HG1s.out.trans (grew2_of hg)); have HV2 := Lib.hid (hv.mono HG1s.out.size); have v2 := par_grown v1s hVR hg; have p2 := HF2.out.par; have c12 := HF2.out.blk.cell 12; have g12 := HF2.out.blk.frozen 12; simp only [fresh, TB.cells, nilS, List.set_cons_succ, List.set_cons_zero, List.getElem?_cons_succ, List.getElem?_cons_zero] at c12; have HF2s := Lib.hid (HF2.out.set_ 12 (.slice B1 x2.length d1)); have HG2s := Lib.hid (HG2.out.set_ 12 (.slice B1 x2.length d1)); have p2s := HF2s.out.par; have v2s := (set_far (u := (.slice B1 x2.length d1)) (j := 12) v2 hVb); have HV2s := Lib.hid (HV2.out.setCell (i := 12) (u := (.slice B1 x2.length d1)) hbl); skip)
    | (go_at_call 33; rw [← HU0.out]; refine (HN0.out _ HF0.out.rd).mono ?_; rintro e w1 ⟨rfl, hr, hg⟩; have HF1 := Lib.hid (HF0.out.step hr hg); have HG1 := Lib.hid (HG0.out.trans (grew2_of hg)); have v1 := par_grown v0 hVR hg; have p1 := HF1.out.par; have c8 := HF1.out.blk.cell 8; have g8 := HF1.out.blk.frozen 8; simp only [fresh, TB.cells, nilS, List.set_cons_succ, List.set_cons_zero, List.getElem?_cons_succ, List.getElem?_cons_zero] at c8; have HF1s := Lib.hid (HF1.out.set_ 8 (.int .i64 x1)); have HG1s := Lib.hid (HG1.out.set_ 8 (.int .i64 x1)); have p1s := HF1s.out.par; have v1s := (set_far (u := (.int .i64 x1)) (j := 8) v1 hVb); skip))
  go_end0
  rw [HT.out]
  exact ⟨rfl, tbIn_of HF2s.out rfl ⟨HV2s.out, row_nil _ _ _, syms_nil _ _ _ _, syms_nil _ _ _ _, syms_nil _ _ _ _, reps_nil _ _⟩, HG2s.out⟩
set_option maxRecDepth 100000 in
set_option maxHeartbeats 4000000 in
theorem tells_50 (P R b : Nat) (A : Addr) (n c : Nat) (L : List Int) (s : Rd.St) (at_ : Int) (w : World) (h : Fill w R P b A n c L s (fresh 50)) :
    Calls Try.prog 67 #[.pointer (some ⟨P, 0, none⟩), .pointer (some ⟨b, 0, none⟩), .int .i64 at_] w (SndP R P b A n c L w (.tuple #[]) (Rd.tellsM 50 at_ L s).1 (Rd.tellsM 50 at_ L s).2) := by
  have hby := h.rd.byt
  have HN0 := Lib.hid (fun u V (hu : RdIs u R A n c L s) hp hv hvr => tzItemsB P R V A n c L s at_ u hu hp h.pr hv hvr)
  obtain ⟨x1, t1, hM0⟩ : ∃ v t, Rd.itemsM (Rd.num 1) at_ L s = (v, t) := ⟨_, _, rfl⟩
  rw [hM0] at HN0
  obtain ⟨T, hT⟩ : ∃ T, T = Rd.tellsM 50 at_ L s := ⟨_, rfl⟩
  have hT2 : T = ({ id := 50, items := x1 }, t1) := by
    rw [hT]
    unfold Rd.tellsM
    simp (config := { decide := true }) only [if_true, if_false, if_pos, if_neg, not_false_eq_true]
    simp only [Rd.bind, Rd.ret, Int.toNat_natCast, hM0]
  have HT := Lib.hid hT2
  rw [← hT]
  have H0 := Lib.hid h
  have hbl := h.blk.lt
  have hlt := h.lt
  have hpb := h.pb
  have p0 := h.par
  have i0 : w.cell? ⟨b, 0, none⟩ = some (.int .i64 50) := h.blk.cell 0
  obtain ⟨u0, hu0⟩ : ∃ u0, u0 = w.alloc (.cells #[.pointer (some ⟨R, 0, none⟩)] 68) := ⟨_, rfl⟩
  have HU0 := Lib.hid hu0
  have hB0 : Below w.heap.size w u0 := by rw [hu0]; exact (Below.refl _ w).alloc (Nat.le_refl _) _
  have v0 : u0.cell? ⟨w.heap.size, 0, none⟩ = some (.pointer (some ⟨R, 0, none⟩)) := by rw [hu0]; exact (Blk.new w 68 [.pointer (some ⟨R, 0, none⟩)]).cell 0
  have HF0 := Lib.hid (h.below hB0)
  have HG0 : Hid (Grew2 R b w u0) := grew2_of (grownBy_below hB0)
  have q0 := HF0.out.par
  have j0 : u0.cell? ⟨b, 0, none⟩ = some (.int .i64 50) := HF0.out.blk.cell 0
  have hVR : w.heap.size ≠ R := by omega
  have hVb : w.heap.size ≠ b := by omega
  have hsz0 := hB0.size
  clear h hby hT hT2 hM0 hu0 hB0
  go_enter Try.func67, Try.ntmps67
  go_wp2_with (first
    | (go_at_call 95; rw [← HU0.out]; refine (HN0.out _ w.heap.size HF0.out.rd HF0.out.par v0 hVR).mono ?_; rintro e w1 ⟨v, rfl, hv, hr, hg⟩; obtain ⟨B0, d0, rfl⟩ := syms_form hv; have HF1 := Lib.hid (HF0.out.step hr hg); have HG1 := Lib.hid (HG0.out.trans (grew2_of hg)); have HV1 := Lib.hid (hv.mono HG0.out.size); have v1 := par_grown v0 hVR hg; have p1 := HF1.out.par; have c14 := HF1.out.blk.cell 14; have g14 := HF1.out.blk.frozen 14; simp only [fresh, TB.cells, nilS, List.set_cons_succ, List.set_cons_zero, List.getElem?_cons_succ, List.getElem?_cons_zero] at c14; have HF1s := Lib.hid (HF1.out.set_ 14 (.slice B0 x1.length d0)); have HG1s := Lib.hid (HG1.out.set_ 14 (.slice B0 x1.length d0)); have p1s := HF1s.out.par; have v1s := (set_far (u := (.slice B0 x1.length d0)) (j := 14) v1 hVb); have HV1s := Lib.hid (HV1.out.setCell (i := 14) (u := (.slice B0 x1.length d0)) hbl); skip))
  go_end0
  rw [HT.out]
  exact ⟨rfl, tbIn_of HF1s.out rfl ⟨row_nil _ _ _, row_nil _ _ _, HV1s.out, syms_nil _ _ _ _, syms_nil _ _ _ _, reps_nil _ _⟩, HG1s.out⟩
set_option maxRecDepth 100000 in
set_option maxHeartbeats 4000000 in
theorem tells_52 (P R b : Nat) (A : Addr) (n c : Nat) (L : List Int) (s : Rd.St) (at_ : Int) (w : World) (h : Fill w R P b A n c L s (fresh 52)) :
    Calls Try.prog 67 #[.pointer (some ⟨P, 0, none⟩), .pointer (some ⟨b, 0, none⟩), .int .i64 at_] w (SndP R P b A n c L w (.tuple #[]) (Rd.tellsM 52 at_ L s).1 (Rd.tellsM 52 at_ L s).2) := by
  have hby := h.rd.byt
  have HN0 := Lib.hid (fun u (hu : RdIs u R A n c L s) => rdTake R A n c L s 8 u hu (by omega))
  obtain ⟨x1, t1, hM0⟩ : ∃ v t, Rd.take 8 L s = (v, t) := ⟨_, _, rfl⟩
  rw [hM0] at HN0
  obtain ⟨T, hT⟩ : ∃ T, T = Rd.tellsM 52 at_ L s := ⟨_, rfl⟩
  have hT2 : T = ({ id := 52, data := x1 }, t1) := by
    rw [hT]
    unfold Rd.tellsM
    simp (config := { decide := true }) only [if_true, if_false, if_pos, if_neg, not_false_eq_true]
    simp only [Rd.bind, Rd.ret, Int.toNat_natCast, hM0]
  have HT := Lib.hid hT2
  rw [← hT]
  have H0 := Lib.hid h
  have hbl := h.blk.lt
  have hlt := h.lt
  have hpb := h.pb
  have p0 := h.par
  have i0 : w.cell? ⟨b, 0, none⟩ = some (.int .i64 52) := h.blk.cell 0
  obtain ⟨u0, hu0⟩ : ∃ u0, u0 = w.alloc (.cells #[.pointer (some ⟨R, 0, none⟩)] 68) := ⟨_, rfl⟩
  have HU0 := Lib.hid hu0
  have hB0 : Below w.heap.size w u0 := by rw [hu0]; exact (Below.refl _ w).alloc (Nat.le_refl _) _
  have v0 : u0.cell? ⟨w.heap.size, 0, none⟩ = some (.pointer (some ⟨R, 0, none⟩)) := by rw [hu0]; exact (Blk.new w 68 [.pointer (some ⟨R, 0, none⟩)]).cell 0
  have HF0 := Lib.hid (h.below hB0)
  have HG0 : Hid (Grew2 R b w u0) := grew2_of (grownBy_below hB0)
  have q0 := HF0.out.par
  have j0 : u0.cell? ⟨b, 0, none⟩ = some (.int .i64 52) := HF0.out.blk.cell 0
  have hVR : w.heap.size ≠ R := by omega
  have hVb : w.heap.size ≠ b := by omega
  have hsz0 := hB0.size
  clear h hby hT hT2 hM0 hu0 hB0
  go_enter Try.func67, Try.ntmps67
  go_wp2_with (first
    | (go_at_call 32; rw [← HU0.out]; refine (HN0.out _ HF0.out.rd).mono ?_; rintro e w1 ⟨v, rfl, hv, hr, hg⟩; obtain ⟨B0, d0, rfl⟩ := own_form hv; have HF1 := Lib.hid (HF0.out.step hr hg); have HG1 := Lib.hid (HG0.out.trans (grew2_of hg)); have HV1 := Lib.hid (hv.mono HG0.out.size); have v1 := par_grown v0 hVR hg; have p1 := HF1.out.par; have c12 := HF1.out.blk.cell 12; have g12 := HF1.out.blk.frozen 12; simp only [fresh, TB.cells, nilS, List.set_cons_succ, List.set_cons_zero, List.getElem?_cons_succ, List.getElem?_cons_zero] at c12; have HF1s := Lib.hid (HF1.out.set_ 12 (.slice B0 x1.length d0)); have HG1s := Lib.hid (HG1.out.set_ 12 (.slice B0 x1.length d0)); have p1s := HF1s.out.par; have v1s := (set_far (u := (.slice B0 x1.length d0)) (j := 12) v1 hVb); have HV1s := Lib.hid (HV1.out.setCell (i := 12) (u := (.slice B0 x1.length d0)) hbl); skip))
  go_end0
  rw [HT.out]
  exact ⟨rfl, tbIn_of HF1s.out rfl ⟨HV1s.out, row_nil _ _ _, syms_nil _ _ _ _, syms_nil _ _ _ _, syms_nil _ _ _ _, reps_nil _ _⟩, HG1s.out⟩
set_option maxRecDepth 100000 in
set_option maxHeartbeats 4000000 in
theorem tells_90 (P R b : Nat) (A : Addr) (n c : Nat) (L : List Int) (s : Rd.St) (at_ : Int) (w : World) (h : Fill w R P b A n c L s (fresh 90)) :
    Calls Try.prog 67 #[.pointer (some ⟨P, 0, none⟩), .pointer (some ⟨b, 0, none⟩), .int .i64 at_] w (SndP R P b A n c L w (.tuple #[]) (Rd.tellsM 90 at_ L s).1 (Rd.tellsM 90 at_ L s).2) := by
  have hby := h.rd.byt
  have HN0 := Lib.hid (fun u cs (hu : Fill u R P b A n c L s cs) hc => tzGlued P R b A n c L s cs u hu hc)
  obtain ⟨x1, t1, hM0⟩ : ∃ v t, Rd.gluedM L s = (v, t) := ⟨_, _, rfl⟩
  rw [hM0] at HN0
  obtain ⟨T, hT⟩ : ∃ T, T = Rd.tellsM 90 at_ L s := ⟨_, rfl⟩
  have hT2 : T = ({ id := 90, data := x1 }, t1) := by
    rw [hT]
    unfold Rd.tellsM
    simp (config := { decide := true }) only [if_true, if_false, if_pos, if_neg, not_false_eq_true]
    simp only [Rd.bind, Rd.ret, Int.toNat_natCast, hM0]
  have HT := Lib.hid hT2
  rw [← hT]
  have H0 := Lib.hid h
  have hbl := h.blk.lt
  have hlt := h.lt
  have hpb := h.pb
  have p0 := h.par
  have i0 : w.cell? ⟨b, 0, none⟩ = some (.int .i64 90) := h.blk.cell 0
  obtain ⟨u0, hu0⟩ : ∃ u0, u0 = w.alloc (.cells #[.pointer (some ⟨R, 0, none⟩)] 68) := ⟨_, rfl⟩
  have HU0 := Lib.hid hu0
  have hB0 : Below w.heap.size w u0 := by rw [hu0]; exact (Below.refl _ w).alloc (Nat.le_refl _) _
  have v0 : u0.cell? ⟨w.heap.size, 0, none⟩ = some (.pointer (some ⟨R, 0, none⟩)) := by rw [hu0]; exact (Blk.new w 68 [.pointer (some ⟨R, 0, none⟩)]).cell 0
  have HF0 := Lib.hid (h.below hB0)
  have HG0 : Hid (Grew2 R b w u0) := grew2_of (grownBy_below hB0)
  have q0 := HF0.out.par
  have j0 : u0.cell? ⟨b, 0, none⟩ = some (.int .i64 90) := HF0.out.blk.cell 0
  have hVR : w.heap.size ≠ R := by omega
  have hVb : w.heap.size ≠ b := by omega
  have hsz0 := hB0.size
  clear h hby hT hT2 hM0 hu0 hB0
  go_enter Try.func67, Try.ntmps67
  go_wp2_with (first
    | (go_at_call 101; rw [← HU0.out]; refine (HN0.out _ _ HF0.out rfl).mono ?_; rintro e w1 ⟨rfl, d, hF, hv, hG⟩; have HF1 := Lib.hid hF; have HG1 := Lib.hid (HG0.out.trans hG); have HV1 := Lib.hid (hv.mono HG0.out.size); skip))
  go_end0
  rw [HT.out]
  exact ⟨rfl, tbIn_of HF1.out rfl ⟨HV1.out, row_nil _ _ _, syms_nil _ _ _ _, syms_nil _ _ _ _, syms_nil _ _ _ _, reps_nil _ _⟩, HG1.out⟩
set_option maxRecDepth 100000 in
set_option maxHeartbeats 4000000 in
theorem tells_any (P R b : Nat) (A : Addr) (n c : Nat) (L : List Int) (s : Rd.St) (id at_ : Int) (w : World) (h : Fill w R P b A n c L s (fresh id)) (hid : ¬ (id = 33 ∨ id = 48 ∨ id = 49 ∨ id = 50 ∨ id = 51 ∨ id = 52 ∨ id = 53 ∨ id = 90)) :
    Calls Try.prog 67 #[.pointer (some ⟨P, 0, none⟩), .pointer (some ⟨b, 0, none⟩), .int .i64 at_] w (SndP R P b A n c L w (.tuple #[]) (Rd.tellsM id at_ L s).1 (Rd.tellsM id at_ L s).2) := by
  have hby := h.rd.byt
  have HN0 := Lib.hid (fun u (hu : RdIs u R A n c L s) hp => tzData P R A n c L s 4 u hu hp h.pr (by omega) (by omega))
  obtain ⟨x1, t1, hM0⟩ : ∃ v t, Rd.dataM 4 L s = (v, t) := ⟨_, _, rfl⟩
  rw [hM0] at HN0
  obtain ⟨T, hT⟩ : ∃ T, T = Rd.tellsM id at_ L s := ⟨_, rfl⟩
  have hT2 : T = ({ id := id, data := x1 }, t1) := by
    rw [hT]
    unfold Rd.tellsM
    simp only [show ¬ id = 33 from fun e => hid (by omega), show ¬ id = 48 from fun e => hid (by omega), show ¬ id = 49 from fun e => hid (by omega), show ¬ id = 50 from fun e => hid (by omega), show ¬ id = 51 from fun e => hid (by omega), show ¬ id = 52 from fun e => hid (by omega), show ¬ id = 53 from fun e => hid (by omega), show ¬ id = 90 from fun e => hid (by omega), if_false]
    simp only [Rd.bind, Rd.ret, Int.toNat_natCast, hM0]
  have HT := Lib.hid hT2
  rw [← hT]
  have H0 := Lib.hid h
  have hbl := h.blk.lt
  have hlt := h.lt
  have hpb := h.pb
  have p0 := h.par
  have i0 : w.cell? ⟨b, 0, none⟩ = some (.int .i64 id) := h.blk.cell 0
  obtain ⟨u0, hu0⟩ : ∃ u0, u0 = w.alloc (.cells #[.pointer (some ⟨R, 0, none⟩)] 68) := ⟨_, rfl⟩
  have HU0 := Lib.hid hu0
  have hB0 : Below w.heap.size w u0 := by rw [hu0]; exact (Below.refl _ w).alloc (Nat.le_refl _) _
  have v0 : u0.cell? ⟨w.heap.size, 0, none⟩ = some (.pointer (some ⟨R, 0, none⟩)) := by rw [hu0]; exact (Blk.new w 68 [.pointer (some ⟨R, 0, none⟩)]).cell 0
  have HF0 := Lib.hid (h.below hB0)
  have HG0 : Hid (Grew2 R b w u0) := grew2_of (grownBy_below hB0)
  have q0 := HF0.out.par
  have j0 : u0.cell? ⟨b, 0, none⟩ = some (.int .i64 id) := HF0.out.blk.cell 0
  have hVR : w.heap.size ≠ R := by omega
  have hVb : w.heap.size ≠ b := by omega
  have hsz0 := hB0.size
  have hne : ∀ k : Int, (k = 33 ∨ k = 48 ∨ k = 49 ∨ k = 50 ∨ k = 51 ∨ k = 52 ∨ k = 53 ∨ k = 90) → (id == k) = false := fun k hk => by simp; intro e; exact hid (by omega)
  have n33 := hne 33 (by omega)
  have n48 := hne 48 (by omega)
  have n49 := hne 49 (by omega)
  have n50 := hne 50 (by omega)
  have n51 := hne 51 (by omega)
  have n52 := hne 52 (by omega)
  have n53 := hne 53 (by omega)
  have n90 := hne 90 (by omega)
  clear hne
  clear h hby hT hT2 hM0 hu0 hB0
  have HID := Lib.hid hid
  clear hid
  go_enter Try.func67, Try.ntmps67
  go_wp2_with (first
    | (go_at_call 89; rw [← HU0.out]; refine (HN0.out _ HF0.out.rd HF0.out.par).mono ?_; rintro e w1 ⟨v, rfl, hv, hr, hg⟩; obtain ⟨B0, d0, rfl⟩ := own_form hv; have HF1 := Lib.hid (HF0.out.step hr hg); have HG1 := Lib.hid (HG0.out.trans (grew2_of hg)); have HV1 := Lib.hid (hv.mono HG0.out.size); have v1 := par_grown v0 hVR hg; have p1 := HF1.out.par; have c12 := HF1.out.blk.cell 12; have g12 := HF1.out.blk.frozen 12; simp only [fresh, TB.cells, nilS, List.set_cons_succ, List.set_cons_zero, List.getElem?_cons_succ, List.getElem?_cons_zero] at c12; have HF1s := Lib.hid (HF1.out.set_ 12 (.slice B0 x1.length d0)); have HG1s := Lib.hid (HG1.out.set_ 12 (.slice B0 x1.length d0)); have p1s := HF1s.out.par; have v1s := (set_far (u := (.slice B0 x1.length d0)) (j := 12) v1 hVb); have HV1s := Lib.hid (HV1.out.setCell (i := 12) (u := (.slice B0 x1.length d0)) hbl); skip))
  go_end0
  rw [HT.out]
  exact ⟨rfl, tbIn_of HF1s.out rfl ⟨HV1s.out, row_nil _ _ _, syms_nil _ _ _ _, syms_nil _ _ _ _, syms_nil _ _ _ _, reps_nil _ _⟩, HG1s.out⟩
end Go.Proofs.Ytokidpajialgbaa
