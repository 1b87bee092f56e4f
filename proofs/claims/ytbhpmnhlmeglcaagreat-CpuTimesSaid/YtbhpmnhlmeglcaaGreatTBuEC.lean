/- cpu: works of plain codes: what is popped, and others. -/
import Derived.Test.YtbhpmnhlmeglcaaGreatTBuEB
namespace Go.Proofs.YtbhpmnhlmeglcaaGreat
set_option linter.unusedSimpArgs false
set_option linter.unusedVariables false
open Go.RowKit
def Cp.poppedR (c : Cp) : Rg := if c.code / 16 % 4 = 3 then { c.r with a := c.wordV / 256, f := c.wordV % 256 } else c.r.putPair (c.code / 16 % 4) c.ix c.wordV
set_option maxRecDepth 100000 in
set_option maxHeartbeats 4000000 in
theorem cp_popped (g : Nat) (c : Cp) (ho : c.Ok) : Does 71 #[.pointer (some ⟨g, 0, none⟩)] g c (c.withR c.poppedR) := by
  intro w sv h
  have H := Lib.hid h; have HB := Lib.hid h.blk
  have HK := Lib.hid (fun w => cpu_p c.code w ho.code)
  have HW := Lib.hid (fun w h => cp_word g sv c w h ho)
  have c32 : w.cell? ⟨g, 32, none⟩ = some (.int .u8 c.code) := h.blk.cell 32
  have c33 : w.cell? ⟨g, 33, none⟩ = some (.int .i64 c.ix) := h.blk.cell 33
  unfold Cp.poppedR
  by_cases hp : c.code / 16 % 4 = 3
  · rw [if_pos hp]
    rw [hp] at HK
    have HPB := Lib.hid (fun w h => putAf_any c.r 46 (c.tail sv) g c.wordV w h (word_b16 ho))
    clear h ho hp
    go_enter Tryz.func71, Tryz.ntmps71
    go_upto_region 1 with (first
      | (go_at_call 66; refine (HK.out _).mono ?_; rintro e w1 ⟨rfl, rfl⟩))
    go_region_held3 (fun w' => w'.cell? ⟨g, 32, none⟩ = some (.int .u8 c.code) ∧ w'.cell? ⟨g, 33, none⟩ = some (.int .i64 c.ix)) (first | exact ⟨c32, c33⟩ | exact S1 | exact S2) (first
      | (go_at_call 67; refine (HW.out _ ?_).mono ?_; exact H.out.drewAt ⟨1, rfl⟩; rintro e w1 ⟨rfl, hd1⟩; have H1 := Lib.hid ((H.out.drewAt ⟨1, rfl⟩).drewAt hd1); have HD1 := Lib.hid hd1; have S1 : w1.cell? ⟨g, 32, none⟩ = some (.int .u8 c.code) ∧ w1.cell? ⟨g, 33, none⟩ = some (.int .i64 c.ix) := ⟨H1.out.blk.cell 32, H1.out.blk.cell 33⟩; clear hd1)
      | (go_at_call 110; refine (HPB.out _ H1.out.blk).mono ?_; rintro e w2 ⟨rfl, h2, ho2⟩; have S2 : w2.cell? ⟨g, 32, none⟩ = some (.int .u8 c.code) ∧ w2.cell? ⟨g, 33, none⟩ = some (.int .i64 c.ix) := ⟨h2.cell 32, h2.cell 33⟩))
    go_wp2
    exact bodyPost_ret (results_none rfl _ _ _) rfl ⟨rfl, H.out.only ((Drew.only ⟨1, rfl⟩).trans ((Drew.only HD1.out).trans ho2)) h2 rfl⟩
  · rw [if_neg hp]
    obtain ⟨p, hpp⟩ : ∃ p, p = c.code / 16 % 4 := ⟨_, rfl⟩
    rw [← hpp] at HK hp ⊢
    have HPB := Lib.hid (fun w h => putPair_any c.r 46 (c.tail sv) g p c.ix c.wordV w h (word_b16 ho))
    have hpb : (p == 3) = false := by simpa using hp
    clear h ho hpp
    go_enter Tryz.func71, Tryz.ntmps71
    go_upto_region 2 with (first
      | (go_at_call 66; refine (HK.out _).mono ?_; rintro e w1 ⟨rfl, rfl⟩))
    go_region_held3 (fun w' => w'.cell? ⟨g, 32, none⟩ = some (.int .u8 c.code) ∧ w'.cell? ⟨g, 33, none⟩ = some (.int .i64 c.ix)) (first | exact ⟨c32, c33⟩ | exact S1 | exact S2) (first
      | (go_at_call 66; refine (HK.out _).mono ?_; rintro e w1 ⟨rfl, rfl⟩)
      | (go_at_call 67; refine (HW.out _ ?_).mono ?_; exact H.out.drewAt ⟨1, rfl⟩; rintro e w1 ⟨rfl, hd1⟩; have H1 := Lib.hid ((H.out.drewAt ⟨1, rfl⟩).drewAt hd1); have HD1 := Lib.hid hd1; have S1 : w1.cell? ⟨g, 32, none⟩ = some (.int .u8 c.code) ∧ w1.cell? ⟨g, 33, none⟩ = some (.int .i64 c.ix) := ⟨H1.out.blk.cell 32, H1.out.blk.cell 33⟩; clear hd1)
      | (go_at_call 65; refine (HPB.out _ H1.out.blk).mono ?_; rintro e w2 ⟨rfl, h2, ho2⟩; have S2 : w2.cell? ⟨g, 32, none⟩ = some (.int .u8 c.code) ∧ w2.cell? ⟨g, 33, none⟩ = some (.int .i64 c.ix) := ⟨h2.cell 32, h2.cell 33⟩))
    go_wp2
    exact bodyPost_end (results_none rfl _ _ _) rfl ⟨rfl, H.out.only ((Drew.only ⟨1, rfl⟩).trans ((Drew.only HD1.out).trans ho2)) h2 rfl⟩
set_option maxRecDepth 100000 in
set_option maxHeartbeats 4000000 in
theorem first_popPair (g : Nat) (c : Cp) (ho : c.Ok) : FirstTo 25 g c (c.withR c.poppedR) := by
  intro w sv h
  have H := Lib.hid h; have HPO := Lib.hid (cp_popped g c ho)
  clear h ho
  go_enter Tryz.func45, Tryz.ntmps45
  go_wp2_with (first
    | (go_at_call 71; refine (HPO.out _ _ H.out).mono ?_; rintro e w1 ⟨rfl, h1⟩))
  exact bodyPost_end (results_none rfl _ _ _) rfl ⟨rfl, h1⟩
/-- works of other -/
theorem work_other (k : Int) (g : Nat) (sv : Value) (c c' : Cp) (w : World) (hk : 32 ≤ k ∧ k ≤ 38)
    (h : Calls Tryz.prog 46 #[.pointer (some ⟨g, 0, none⟩), .int .i64 k] w (Done (.tuple #[]) g w sv c')) :
    Calls Tryz.prog 40 #[.pointer (some ⟨g, 0, none⟩), .int .i64 k] w (Done (.tuple #[]) g w sv c') := by
  have H := Lib.hid h
  have hk2 : ¬ k ≤ 31 := by omega
  have hk3 : k ≤ 38 := hk.2
  clear h hk
  go_enter Tryz.func40, Tryz.ntmps40
  go_wp2_with (first
    | (go_at_call 46; refine H.out.mono ?_; rintro e w1 ⟨rfl, h1⟩))
  exact bodyPost_end (results_none rfl _ _ _) rfl ⟨rfl, h1⟩
def OtherTo (k : Int) (g : Nat) (c d : Cp) : Prop := Does 46 #[.pointer (some ⟨g, 0, none⟩), .int .i64 k] g c d
theorem workOk_o (k : Int) (hk : 32 ≤ k ∧ k ≤ 38) (c : Cp) (ho : c.Ok) (r : Rg) (hr : r.Ok) (h : ∀ g, OtherTo k g c (c.withR r)) : WorkOk k c (c.withR r) :=
  ⟨ok_withR ho hr, fun g sv w hat => work_other k g sv c _ w hk (h g w sv hat)⟩
def Rg.exDe (r : Rg) : Rg := { r with d := r.h, h := r.d, e := r.l, l := r.e }
set_option maxRecDepth 100000 in
set_option maxHeartbeats 4000000 in
theorem other_exDe (g : Nat) (c : Cp) : OtherTo 32 g c (c.withR c.r.exDe) := by
  intro w sv h
  have H := Lib.hid h; have HB := Lib.hid h.blk
  clear h
  go_enter Tryz.func46, Tryz.ntmps46
  go_wp2_with (first
    | (go_at_call 74; refine (exDe_any c.r 46 (c.tail sv) g _ HB.out).mono ?_; rintro e w1 ⟨rfl, h1, h2⟩; have H1 := Lib.hid h1; have H2 := Lib.hid h2; clear h1 h2))
  exact bodyPost_end (results_none rfl _ _ _) rfl ⟨rfl, H.out.only H2.out H1.out rfl⟩
set_option maxRecDepth 100000 in
set_option maxHeartbeats 4000000 in
theorem other_di (g : Nat) (c : Cp) : OtherTo 33 g c (c.withR { c.r with iff1 := false, iff2 := false }) := by
  intro w sv h
  have H := Lib.hid h; have HB := Lib.hid h.blk
  have e24 : w.cell? ⟨g, 24, none⟩ = some (.bool c.r.iff1) := h.blk.cell 24
  have e25 : w.cell? ⟨g, 25, none⟩ = some (.bool c.r.iff2) := h.blk.cell 25
  have y24 := h.blk.frozen 24; have y25 := h.blk.frozen 25
  clear h
  go_enter Tryz.func46, Tryz.ntmps46
  go_wp2
  exact bodyPost_end (results_none rfl _ _ _) rfl ⟨rfl, H.out.only ((Only.set g 24 w _).trans (Only.set g 25 _ _)) ((HB.out.set_ 24 _).set_ 25 _) rfl⟩
set_option maxRecDepth 100000 in
set_option maxHeartbeats 4000000 in
theorem other_ei (g : Nat) (c : Cp) : OtherTo 34 g c (c.withR { c.r with iff1 := true, iff2 := true, hold := true }) := by
  intro w sv h
  have H := Lib.hid h; have HB := Lib.hid h.blk
  have e24 : w.cell? ⟨g, 24, none⟩ = some (.bool c.r.iff1) := h.blk.cell 24
  have e25 : w.cell? ⟨g, 25, none⟩ = some (.bool c.r.iff2) := h.blk.cell 25
  have e27 : w.cell? ⟨g, 27, none⟩ = some (.bool c.r.hold) := h.blk.cell 27
  have y24 := h.blk.frozen 24; have y25 := h.blk.frozen 25; have y27 := h.blk.frozen 27
  clear h
  go_enter Tryz.func46, Tryz.ntmps46
  go_wp2
  exact bodyPost_end (results_none rfl _ _ _) rfl ⟨rfl, H.out.only (((Only.set g 24 w _).trans (Only.set g 25 _ _)).trans (Only.set g 27 _ _)) (((HB.out.set_ 24 _).set_ 25 _).set_ 27 _) rfl⟩
theorem u16_of_u8 (x : Int) (h : B8 x) : IntKind.u16.wrap x = x := by rw [IntKind.wrap_u16]; obtain ⟨h0, h1⟩ := h; omega
set_option maxRecDepth 100000 in
set_option maxHeartbeats 4000000 in
theorem other_rst (g : Nat) (c : Cp) : OtherTo 35 g c (c.withR { c.r with pc := bits .and .u8 c.code 56, wz := bits .and .u8 c.code 56 }) := by
  intro w sv h
  have H := Lib.hid h; have HB := Lib.hid h.blk
  have e22 : w.cell? ⟨g, 22, none⟩ = some (.int .u16 c.r.pc) := h.blk.cell 22
  have e23 : w.cell? ⟨g, 23, none⟩ = some (.int .u16 c.r.wz) := h.blk.cell 23
  have e32 : w.cell? ⟨g, 32, none⟩ = some (.int .u8 c.code) := h.blk.cell 32
  have y22 := h.blk.frozen 22; have y23 := h.blk.frozen 23
  have hw := u16_of_u8 _ (b8_bits .and c.code 56)
  clear h
  go_enter Tryz.func46, Tryz.ntmps46
  go_wp2
  exact bodyPost_end (results_none rfl _ _ _) rfl ⟨rfl, H.out.only ((Only.set g 22 w _).trans (Only.set g 23 _ _)) ((HB.out.set_ 22 _).set_ 23 _) rfl⟩
end Go.Proofs.YtbhpmnhlmeglcaaGreat
