/- tzx.parser: tells of 51 and 53; sound and leads of another's ID. -/
import Derived.Test.YtaipkoeiahjghaaRdO
import Derived.Test.YtaipkoeiahjghaaRdP
import Derived.Test.YtaipkoeiahjghaaRdQ
namespace Go.Proofs.Ytaipkoeiahjghaa
set_option linter.unusedSimpArgs false
set_option linter.unusedVariables false
open Go.RowKit
def soundID (id : Int) : Prop := id = 16 ∨ id = 17 ∨ id = 18 ∨ id = 19 ∨ id = 20 ∨ id = 21 ∨ id = 24 ∨ id = 25 ∨ id = 32
def leadsID (id : Int) : Prop := id = 34 ∨ id = 37 ∨ id = 39 ∨ id = 35 ∨ id = 36 ∨ id = 38 ∨ id = 40 ∨ id = 42 ∨ id = 43
set_option maxRecDepth 100000 in
set_option maxHeartbeats 4000000 in
theorem sound_not (P R b : Nat) (A : Addr) (n c : Nat) (L : List Int) (s : Rd.St) (id at_ : Int) (w : World) (h : Fill w R P b A n c L s (fresh id)) (hid : ¬ soundID id) :
    Calls Try.prog 31 #[.pointer (some ⟨P, 0, none⟩), .pointer (some ⟨b, 0, none⟩), .int .i64 at_] w fun e w' => e = .returned (.bool false) ∧ w = w' := by
  have p0 := h.par
  have i0 : w.cell? ⟨b, 0, none⟩ = some (.int .i64 id) := h.blk.cell 0
  have hne : ∀ k : Int, soundID k → (id == k) = false := fun k hk => by simp; intro e; exact hid (by rw [e]; exact hk)
  have n1 := hne 16 (by unfold soundID; omega)
  have n2 := hne 17 (by unfold soundID; omega)
  have n3 := hne 18 (by unfold soundID; omega)
  have n4 := hne 19 (by unfold soundID; omega)
  have n5 := hne 20 (by unfold soundID; omega)
  have n6 := hne 21 (by unfold soundID; omega)
  have n7 := hne 24 (by unfold soundID; omega)
  have n8 := hne 25 (by unfold soundID; omega)
  have n9 := hne 32 (by unfold soundID; omega)
  clear hne hid h
  go_enter Try.func31, Try.ntmps31
  go_wp2_with fail
  go_ret
  exact ⟨rfl, rfl⟩
set_option maxRecDepth 100000 in
set_option maxHeartbeats 4000000 in
theorem leads_not (P R b : Nat) (A : Addr) (n c : Nat) (L : List Int) (s : Rd.St) (id at_ : Int) (w : World) (h : Fill w R P b A n c L s (fresh id)) (hid : ¬ leadsID id) :
    Calls Try.prog 32 #[.pointer (some ⟨P, 0, none⟩), .pointer (some ⟨b, 0, none⟩), .int .i64 at_] w fun e w' => e = .returned (.bool false) ∧ Below w.heap.size w w' := by
  have p0 := h.par
  obtain ⟨u0, hu0⟩ : ∃ u0, u0 = w.alloc (.cells #[.pointer (some ⟨R, 0, none⟩)] 62) := ⟨_, rfl⟩
  have HU0 := Lib.hid hu0
  have hB0 : Below w.heap.size w u0 := by rw [hu0]; exact (Below.refl _ w).alloc (Nat.le_refl _) _
  have i0 : w.cell? ⟨b, 0, none⟩ = some (.int .i64 id) := h.blk.cell 0
  have j0 := cell_alloc i0 (.cells #[.pointer (some ⟨R, 0, none⟩)] 62)
  have hne : ∀ k : Int, leadsID k → (id == k) = false := fun k hk => by simp; intro e; exact hid (by rw [e]; exact hk)
  have n1 := hne 34 (by unfold leadsID; omega)
  have n2 := hne 37 (by unfold leadsID; omega)
  have n3 := hne 39 (by unfold leadsID; omega)
  have n4 := hne 35 (by unfold leadsID; omega)
  have n5 := hne 36 (by unfold leadsID; omega)
  have n6 := hne 38 (by unfold leadsID; omega)
  have n7 := hne 40 (by unfold leadsID; omega)
  have n8 := hne 42 (by unfold leadsID; omega)
  have n9 := hne 43 (by unfold leadsID; omega)
  have HB0 := Lib.hid hB0
  clear hne hid h hB0 hu0
  go_enter Try.func32, Try.ntmps32
  go_wp2_with fail
  go_ret
  rw [← HU0.out]
  exact ⟨rfl, HB0.out⟩
set_option maxRecDepth 100000 in
set_option maxHeartbeats 4000000 in
theorem tells_51 (P R b : Nat) (A : Addr) (n c : Nat) (L : List Int) (s : Rd.St) (at_ : Int) (w : World) (h : Fill w R P b A n c L s (fresh 51)) :
    Calls Try.prog 33 #[.pointer (some ⟨P, 0, none⟩), .pointer (some ⟨b, 0, none⟩), .int .i64 at_] w (SndP R P b A n c L w (.tuple #[]) (Rd.tellsM 51 at_ L s).1 (Rd.tellsM 51 at_ L s).2) := by
  have hby := h.rd.byt
  have HN0 := Lib.hid (fun u (hu : RdIs u R A n c L s) => rdNumber R A n c L s 1 u hu (by omega) (by omega))
  obtain ⟨hz0, hy0⟩ := num_range hby 1 s (by omega)
  obtain ⟨x1, t1, hM0⟩ : ∃ v t, Rd.num 1 L s = (v, t) := ⟨_, _, rfl⟩
  rw [hM0] at HN0 hz0 hy0
  simp only at hz0 hy0
  have hx0 : x1 < 256 := hy0
  have HN1 := Lib.hid (fun u (hu : RdIs u R A n c L t1) => rdNumbers R A n c L t1 (3 * x1) 1 u hu (by omega) (by omega) (by omega))
  obtain ⟨x2, t2, hM1⟩ : ∃ v t, Rd.numbers (3 * x1) 1 L t1 = (v, t) := ⟨_, _, rfl⟩
  rw [hM1] at HN1
  obtain ⟨T, hT⟩ : ∃ T, T = Rd.tellsM 51 at_ L s := ⟨_, rfl⟩
  have hT2 : T = ({ id := 51, times := x2 }, t2) := by
    rw [hT]
    unfold Rd.tellsM
    simp (config := { decide := true }) only [if_true, if_false, if_pos, if_neg, not_false_eq_true]
    simp only [Rd.bind, Rd.ret, hM0, hM1]
  have HT := Lib.hid hT2
  rw [← hT]
  have hbl := h.blk.lt
  have hlt := h.lt
  have p0 := h.par
  have i0 : w.cell? ⟨b, 0, none⟩ = some (.int .i64 51) := h.blk.cell 0
  obtain ⟨u0, hu0⟩ : ∃ u0, u0 = w.alloc (.cells #[.pointer (some ⟨R, 0, none⟩)] 62) := ⟨_, rfl⟩
  have HU0 := Lib.hid hu0
  have hB0 : Below w.heap.size w u0 := by rw [hu0]; exact (Below.refl _ w).alloc (Nat.le_refl _) _
  have v0 : u0.cell? ⟨w.heap.size, 0, none⟩ = some (.pointer (some ⟨R, 0, none⟩)) := by rw [hu0]; exact (Blk.new w 62 [.pointer (some ⟨R, 0, none⟩)]).cell 0
  have HF0 := Lib.hid (h.below hB0)
  have HG0 : Hid (Grew2 R b w u0) := grew2_of (grownBy_below hB0)
  have j0 := cell_alloc i0 (.cells #[.pointer (some ⟨R, 0, none⟩)] 62)
  have hVR : w.heap.size ≠ R := by omega
  have hVb : w.heap.size ≠ b := by omega
  clear h hby hT hT2 hM0 hM1 hu0 hB0 hy0
  have w1' : IntKind.i64.wrap (3 * x1) = 3 * x1 := by rw [IntKind.wrap_i64]; omega
  go_enter Try.func33, Try.ntmps33
  go_upto_region 12 with fail
  rw [← HU0.out]
  go_region_held3 (fun w' => w'.cell? ⟨w.heap.size, 0, none⟩ = some (.pointer (some ⟨R, 0, none⟩))) (first | exact v0 | exact v1 | exact v2 | exact set_far v2 hVb)
    (first
      | (go_at_call 23; refine (HN0.out _ (HF0.out.rd.below ((Below.refl _ u0).drew))).mono ?_; rintro e w1 ⟨rfl, hr, hg0⟩; have hg := grownBy_of_drew hg0; have HF1 := Lib.hid (HF0.out.step hr hg); have HG1 := Lib.hid (HG0.out.trans (grew2_of hg)); have v1 := par_grown v0 hVR hg; clear hr hg hg0)
      | (go_at_call 36; refine (HN1.out _ HF1.out.rd).mono ?_; rintro e w2 ⟨v, rfl, hv, hr, hg⟩; obtain ⟨B1, d1, rfl⟩ := own_form hv; have HF2 := Lib.hid (HF1.out.step hr hg); have HG2 := Lib.hid (HG1.out.trans (grew2_of hg)); have HV2 := Lib.hid (hv.mono HG1.out.size); have v2 := par_grown v1 hVR hg; have c13 := HF2.out.blk.cell 13; have g13 := HF2.out.blk.frozen 13; simp only [fresh, TB.cells, nilS, List.set_cons_succ, List.set_cons_zero, List.getElem?_cons_succ, List.getElem?_cons_zero] at c13; clear hr hg hv))
  all_goals
    go_wp2_with fail
    go_end0
    rw [HT.out]
    exact ⟨rfl, tbIn_of (HF2.out.set_ 13 _) rfl ⟨row_nil _ _ _, HV2.out.setCell hbl, syms_nil _ _ _ _, syms_nil _ _ _ _, syms_nil _ _ _ _, reps_nil _ _⟩, HG2.out.set_ 13 _⟩
theorem own_of_blk2 {w : World} {B g : Nat} {t : TypeId} {cs : List Value} (h : Blk w g t cs) (hB : B ≤ g) (hn : cs.length = 2) : w.ownsRow B t 2 (.slice (some ⟨g, 0, none⟩) 1 1) 1 cs :=
  ⟨by omega, .inr ⟨g, 1, _, rfl, hB, h, Nat.le_refl _, by unfold maxLen; omega, by simp [hn], by rw [Nat.one_mul, ← hn]; simp⟩⟩
set_option maxRecDepth 100000 in
set_option maxHeartbeats 4000000 in
theorem tells_53 (P R b : Nat) (A : Addr) (n c : Nat) (L : List Int) (s : Rd.St) (at_ : Int) (w : World) (h : Fill w R P b A n c L s (fresh 53)) :
    Calls Try.prog 33 #[.pointer (some ⟨P, 0, none⟩), .pointer (some ⟨b, 0, none⟩), .int .i64 at_] w (SndP R P b A n c L w (.tuple #[]) (Rd.tellsM 53 at_ L s).1 (Rd.tellsM 53 at_ L s).2) := by
  have HN0 := Lib.hid (fun u (hu : RdIs u R A n c L s) => rdTake R A n c L s 16 u hu (by omega))
  obtain ⟨x1, t1, hM0⟩ : ∃ v t, Rd.take 16 L s = (v, t) := ⟨_, _, rfl⟩
  rw [hM0] at HN0
  have HN1 := Lib.hid (fun u (hu : RdIs u R A n c L t1) hp => tzData P R A n c L t1 4 u hu hp h.pr (by omega) (by omega))
  obtain ⟨x2, t2, hM1⟩ : ∃ v t, Rd.dataM 4 L t1 = (v, t) := ⟨_, _, rfl⟩
  rw [hM1] at HN1
  obtain ⟨T, hT⟩ : ∃ T, T = Rd.tellsM 53 at_ L s := ⟨_, rfl⟩
  have hT2 : T = ({ id := 53, items := [(0, x1)], data := x2 }, t2) := by
    rw [hT]
    unfold Rd.tellsM
    simp (config := { decide := true }) only [if_true, if_false, if_pos, if_neg, not_false_eq_true]
    simp only [Rd.bind, Rd.ret, hM0, hM1]
  have HT := Lib.hid hT2
  rw [← hT]
  have hbl := h.blk.lt
  have hlt := h.lt
  have p0 := h.par
  have i0 : w.cell? ⟨b, 0, none⟩ = some (.int .i64 53) := h.blk.cell 0
  obtain ⟨u0, hu0⟩ : ∃ u0, u0 = w.alloc (.cells #[.pointer (some ⟨R, 0, none⟩)] 62) := ⟨_, rfl⟩
  have HU0 := Lib.hid hu0
  have hB0 : Below w.heap.size w u0 := by rw [hu0]; exact (Below.refl _ w).alloc (Nat.le_refl _) _
  have v0 : u0.cell? ⟨w.heap.size, 0, none⟩ = some (.pointer (some ⟨R, 0, none⟩)) := by rw [hu0]; exact (Blk.new w 62 [.pointer (some ⟨R, 0, none⟩)]).cell 0
  have HF0 := Lib.hid (h.below hB0)
  have HG0 : Hid (Grew2 R b w u0) := grew2_of (grownBy_below hB0)
  have j0 := cell_alloc i0 (.cells #[.pointer (some ⟨R, 0, none⟩)] 62)
  have hpR := h.pr
  clear h hT hT2 hM0 hM1 hu0 hB0
  go_enter Try.func33, Try.ntmps33
  go_wp2_with (first
    | (go_at_call 34; rw [← HW3.out]; refine (HN1.out _ HF3.out.rd HF3.out.par).mono ?_; rintro e w4 ⟨v, rfl, hv, hr, hg⟩; obtain ⟨B4, d4, rfl⟩ := own_form hv; have HF4 := Lib.hid (HF3.out.step hr hg); have HG4 := Lib.hid (HG3.out.trans (grew2_of hg)); have HV4 := Lib.hid (hv.mono HG3.out.size); have HI4 := Lib.hid (HI3.out.grown hg (by omega)); have c12 := HF4.out.blk.cell 12; have g12 := HF4.out.blk.frozen 12; simp only [fresh, TB.cells, nilS, List.set_cons_succ, List.set_cons_zero, List.getElem?_cons_succ, List.getElem?_cons_zero] at c12; clear hr hg hv)
    | (go_at_call 22; rw [← HU0.out]; refine (HN0.out _ HF0.out.rd).mono ?_; rintro e w1 ⟨v, rfl, hv, hr, hg⟩; obtain ⟨B1, d1, rfl⟩ := own_form hv; have HF1 := Lib.hid (HF0.out.step hr hg); have HG1 := Lib.hid (HG0.out.trans (grew2_of hg)); have HV1 := Lib.hid (hv.mono HG0.out.size); have hbs := fun u => buildItem u 0 (.slice B1 x1.length d1); have c14 := HF1.out.blk.cell 14; have g14 := HF1.out.blk.frozen 14; simp only [fresh, TB.cells, nilS, List.set_cons_succ, List.set_cons_zero, List.getElem?_cons_succ, List.getElem?_cons_zero] at c14; have c14a := cell_alloc c14 (.cells #[.int .i64 0, .slice B1 x1.length d1] 32); have g14a := (HF1.out.blk.alloc (.cells #[.int .i64 0, .slice B1 x1.length d1] 32)).frozen 14; obtain ⟨w2, hw2⟩ : ∃ w2, w2 = w1.alloc (.cells #[.int .i64 0, .slice B1 x1.length d1] 32) := ⟨_, rfl⟩; have hb2 : Below w1.heap.size w1 w2 := (by rw [hw2]; exact (Below.refl _ w1).alloc (Nat.le_refl _) _); have hk2 : Blk w2 w1.heap.size 32 [.int .i64 0, .slice B1 x1.length d1] := (by rw [hw2]; exact Blk.new w1 _ [.int .i64 0, .slice B1 x1.length d1]); have HI2 : Hid (SymsOf w2 w.heap.size 32 .u8 (.slice (some ⟨w1.heap.size, 0, none⟩) 1 1) [(0, x1)]) := Lib.hid ⟨_, own_of_blk2 hk2 HG1.out.size rfl, _, _, rfl, HV1.out.below hb2, rfl⟩; have HF3 := Lib.hid ((HF1.out.below hb2).set_ 14 (.slice (some ⟨w1.heap.size, 0, none⟩) 1 1)); have HG3 := Lib.hid ((HG1.out.trans (grew2_of (grownBy_below hb2))).set_ 14 (.slice (some ⟨w1.heap.size, 0, none⟩) 1 1)); have HI3 := Lib.hid (HI2.out.setCell (i := 14) (u := .slice (some ⟨w1.heap.size, 0, none⟩) 1 1) hbl); obtain ⟨w3, hw3⟩ : ∃ w3, w3 = w2.setCell ⟨b, 14, none⟩ (.slice (some ⟨w1.heap.size, 0, none⟩) 1 1) := ⟨_, rfl⟩; rw [← hw3] at HF3 HG3 HI3; have HW3 : Hid (w3 = (w1.alloc (.cells #[.int .i64 0, .slice B1 x1.length d1] 32)).setCell ⟨b, 14, none⟩ (.slice (some ⟨w1.heap.size, 0, none⟩) 1 1)) := (by show _ = _; rw [hw3, hw2]); clear hr hg hv hw2 hw3 hb2 hk2))
  go_end0
  rw [HT.out]
  exact ⟨rfl, tbIn_of (HF4.out.set_ 12 _) rfl ⟨HV4.out.setCell hbl, row_nil _ _ _, HI4.out.setCell hbl, syms_nil _ _ _ _, syms_nil _ _ _ _, reps_nil _ _⟩, HG4.out.set_ 12 _⟩
end Go.Proofs.Ytaipkoeiahjghaa
