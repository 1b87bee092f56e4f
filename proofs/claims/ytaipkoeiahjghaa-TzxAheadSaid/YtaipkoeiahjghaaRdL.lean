/- tzx.parser: samples. -/
import Derived.Test.YtaipkoeiahjghaaRdK
namespace Go.Proofs.Ytaipkoeiahjghaa
set_option linter.unusedSimpArgs false
set_option linter.unusedVariables false
open Go.RowKit
theorem set_same {cs : List Value} {i : Nat} {v : Value} (h : cs[i]? = some v) : cs.set i v = cs := by
  obtain ⟨hi, e⟩ := List.getElem?_eq_some_iff.1 h
  rw [← e]
  exact List.set_getElem_self hi
def SamP (R P b : Nat) (A : Addr) (n c : Nat) (L : List Int) (cs : List Value) (w : World) (t : Int × Int × Int × Int × List Int) (s : Rd.St) (e : Ending) (w' : World) : Prop :=
  e = .returned (.tuple #[]) ∧ ∃ d, Fill w' R P b A n c L s (((((cs.set 1 (.int .i64 t.1)).set 10 (.int .i64 t.2.1)).set 11 (.int .i64 t.2.2.1)).set 8 (.int .i64 t.2.2.2.1)).set 12 d) ∧ RowOf w' w.heap.size d .u8 t.2.2.2.2 ∧ Grew2 R b w w'
set_option maxRecDepth 100000 in
set_option maxHeartbeats 8000000 in
theorem tzSamples (P R b : Nat) (A : Addr) (n c : Nat) (L : List Int) (s : Rd.St) (cs : List Value) (at_ : Int) (w : World) (h : Fill w R P b A n c L s cs) (hcs : cs.length = 18) (h12 : cs[12]? = some (.slice none 0 0)) :
    Calls Try.prog 37 #[.pointer (some ⟨P, 0, none⟩), .pointer (some ⟨b, 0, none⟩), .int .i64 at_] w (SamP R P b A n c L cs w (Rd.samplesM at_ L s).1 (Rd.samplesM at_ L s).2) := by
  have HN0 := Lib.hid (rdNumber R A n c L s 4 w h.rd (by omega) (by omega))
  obtain ⟨hq0, hq1⟩ := num_range h.rd.byt 4 s (by omega)
  obtain ⟨q, s1, hM1⟩ : ∃ q s1, Rd.num 4 L s = (q, s1) := ⟨_, _, rfl⟩
  rw [hM1] at HN0 hq0 hq1
  simp only at hq0 hq1
  have hq2 : q < 4294967296 := hq1
  have HN1 := Lib.hid (fun u (hu : RdIs u R A n c L s1) => rdNumber R A n c L s1 2 u hu (by omega) (by omega))
  obtain ⟨x, s2, hM2⟩ : ∃ x s2, Rd.num 2 L s1 = (x, s2) := ⟨_, _, rfl⟩
  rw [hM2] at HN1
  have HN2 := Lib.hid (fun u (hu : RdIs u R A n c L s2) => rdNumber R A n c L s2 3 u hu (by omega) (by omega))
  obtain ⟨y, s3, hM3⟩ : ∃ y s3, Rd.num 3 L s2 = (y, s3) := ⟨_, _, rfl⟩
  rw [hM3] at HN2
  have HN3 := Lib.hid (fun u (hu : RdIs u R A n c L s3) => rdNumber R A n c L s3 1 u hu (by omega) (by omega))
  obtain ⟨z, s4, hM4⟩ : ∃ z s4, Rd.num 1 L s3 = (z, s4) := ⟨_, _, rfl⟩
  rw [hM4] at HN3
  have HN4 := Lib.hid (fun u (hu : RdIs u R A n c L s4) => rdNumber R A n c L s4 4 u hu (by omega) (by omega))
  obtain ⟨m, s5, hM5⟩ : ∃ m s5, Rd.num 4 L s4 = (m, s5) := ⟨_, _, rfl⟩
  rw [hM5] at HN4
  obtain ⟨T, hT⟩ : ∃ T, T = Rd.samplesM at_ L s := ⟨_, rfl⟩
  have hT2 : T = if q - 10 < 0 then ((x, y, z, m, []), Rd.fail s5 4 at_) else ((x, y, z, m, (Rd.take (q - 10) L s5).1), (Rd.take (q - 10) L s5).2) := by
    rw [hT]
    unfold Rd.samplesM
    simp only [Rd.bind, Rd.ret, hM1, hM2, hM3, hM4, hM5]
    split <;> rfl
  have HT := Lib.hid hT2
  rw [← hT]
  have H := Lib.hid h
  have p0 := h.par
  have hpb := h.pb
  have hbl := h.blk.lt
  have HCS := Lib.hid hcs
  have H12 := Lib.hid h12
  have HFL := Lib.hid (fun u (hu : RdIs u R A n c L s5) => rdFail R A n c L s5 4 at_ u hu (by decide))
  have HTK := Lib.hid (fun u (hu : RdIs u R A n c L s5) => rdTake R A n c L s5 (q - 10) u hu (by omega))
  clear h hM1 hM2 hM3 hM4 hM5 hT hT2 hcs h12
  go_enter Try.func37, Try.ntmps37
  go_upto_region 1 with (first
    | (go_at_call 23; refine HN0.out.mono ?_; rintro e w1 ⟨rfl, hr1, hg1⟩; have HF1 := Lib.hid (H.out.step hr1 hg1); have HG1 := Lib.hid hg1; have p1 := HF1.out.par; clear hr1 hg1))
  go_region_held3 (fun w' => w'.cell? ⟨P, 0, none⟩ = some (.pointer (some ⟨R, 0, none⟩))) (first | exact p1 | exact p2 | exact p3 | exact p4 | exact p5 | exact set_far p5 hpb | exact set_far (set_far p5 hpb) hpb | exact set_far (set_far (set_far p5 hpb) hpb) hpb | exact set_far (set_far (set_far (set_far p5 hpb) hpb) hpb) hpb)
    (first
      | (go_at_call_of 23 (Value.int .i64 2); refine (HN1.out _ (HF1.out.rd.below ((Below.refl _ w1).drew))).mono ?_; rintro e w2 ⟨rfl, hr2, hg0⟩; have hg2 := grownBy_of_drew hg0; have HF2 := Lib.hid (HF1.out.step hr2 hg2); have HG2 := Lib.hid (grownBy_trans HG1.out hg2); have p2 := HF2.out.par; clear hr2 hg2 hg0)
      | (go_at_call_of 23 (Value.int .i64 3); refine (HN2.out w2 HF2.out.rd).mono ?_; rintro e w3 ⟨rfl, hr3, hg3⟩; have HF3 := Lib.hid (HF2.out.step hr3 hg3); have HG3 := Lib.hid (grownBy_trans HG2.out hg3); have p3 := HF3.out.par; clear hr3 hg3)
      | (go_at_call_of 23 (Value.int .i64 1); refine (HN3.out w3 HF3.out.rd).mono ?_; rintro e w4 ⟨rfl, hr4, hg4⟩; have HF4 := Lib.hid (HF3.out.step hr4 hg4); have HG4 := Lib.hid (grownBy_trans HG3.out hg4); have p4 := HF4.out.par; clear hr4 hg4)
      | (go_at_call_of 23 (Value.int .i64 4); refine (HN4.out w4 HF4.out.rd).mono ?_; rintro e w5 ⟨rfl, hr5, hg5⟩; have HF5 := Lib.hid (HF4.out.step hr5 hg5); have HG5 := Lib.hid (grownBy_trans HG4.out hg5); have p5 := HF5.out.par; obtain ⟨v1, b1⟩ := HF5.out.cell 1 (by rw [HCS.out]; decide); have f1 := HF5.out.blk.frozen 1; obtain ⟨v10, b10⟩ := HF5.out.cell 10 (by rw [HCS.out]; decide); have f10 := HF5.out.blk.frozen 10; obtain ⟨v11, b11⟩ := HF5.out.cell 11 (by rw [HCS.out]; decide); have f11 := HF5.out.blk.frozen 11; obtain ⟨v8, b8⟩ := HF5.out.cell 8 (by rw [HCS.out]; decide); have f8 := HF5.out.blk.frozen 8; clear hr5 hg5))
  all_goals
    obtain ⟨w6, hw6⟩ : ∃ w6, w6 = (((w5.setCell ⟨b, 1, none⟩ (.int .i64 x)).setCell ⟨b, 10, none⟩ (.int .i64 y)).setCell ⟨b, 11, none⟩ (.int .i64 z)).setCell ⟨b, 8, none⟩ (.int .i64 m) := ⟨_, rfl⟩
    rw [← hw6]
    have HF6 : Hid (Fill w6 R P b A n c L s5 ((((cs.set 1 (.int .i64 x)).set 10 (.int .i64 y)).set 11 (.int .i64 z)).set 8 (.int .i64 m))) := by show Fill _ _ _ _ _ _ _ _ _ _; rw [hw6]; exact (((HF5.out.set_ 1 _).set_ 10 _).set_ 11 _).set_ 8 _
    have HG6 : Hid (Grew2 R b w w6) := by show Grew2 _ _ _ _; rw [hw6]; exact ((((grew2_of HG5.out).set_ 1 _).set_ 10 _).set_ 11 _).set_ 8 _
    clear hw6
    have p6 := HF6.out.par
    obtain ⟨v12, b12⟩ := HF6.out.cell 12 (by simp only [List.length_set]; rw [HCS.out]; decide)
    have f12 := HF6.out.blk.frozen 12
    by_cases hneg : q - 10 < 0
    · have hT3 : T = ((x, y, z, m, []), Rd.fail s5 4 at_) := by rw [HT.out, if_pos hneg]
      have HT3 := Lib.hid hT3
      clear hT3
      go_wp2_with (first
        | (go_at_call 25; refine (HFL.out w6 HF6.out.rd).mono ?_; rintro e w7 ⟨rfl, hr7, hg7⟩; have HF7 := Lib.hid (HF6.out.step hr7 hg7); have HG7 := Lib.hid (HG6.out.trans (grew2_of hg7)); clear hr7 hg7))
      go_end0
      rw [HT3.out]
      refine ⟨rfl, .slice none 0 0, ?_, row_nil _ _ _, HG7.out⟩
      rw [set_same (by simp only [List.getElem?_set]; simp [H12.out])]
      exact HF7.out
    · have hT3 : T = ((x, y, z, m, (Rd.take (q - 10) L s5).1), (Rd.take (q - 10) L s5).2) := by rw [HT.out, if_neg hneg]
      obtain ⟨D, hD⟩ : ∃ D, D = Rd.take (q - 10) L s5 := ⟨_, rfl⟩
      rw [← hD] at hT3
      have HT3 := Lib.hid hT3
      have HTK2 := HTK
      rw [← hD] at HTK2
      clear hD HTK hT3
      go_wp2_with (first
        | (go_at_call 22; refine (HTK2.out w6 HF6.out.rd).mono ?_; rintro e w7 ⟨d, rfl, hv7, hr7, hg7⟩; obtain ⟨B, dd, rfl⟩ := own_form hv7; have HF7 := Lib.hid (HF6.out.step hr7 hg7); have HG7 := Lib.hid (HG6.out.trans (grew2_of hg7)); have HV7 := Lib.hid (hv7.mono HG6.out.size); obtain ⟨u12, c12⟩ := HF7.out.cell 12 (by simp only [List.length_set]; rw [HCS.out]; decide); have g12 := HF7.out.blk.frozen 12; clear hr7 hg7 hv7))
      go_end0
      rw [HT3.out]
      exact ⟨rfl, _, HF7.out.set_ 12 _, HV7.out.setCell (by omega), HG7.out.set_ 12 _⟩
end Go.Proofs.Ytaipkoeiahjghaa
