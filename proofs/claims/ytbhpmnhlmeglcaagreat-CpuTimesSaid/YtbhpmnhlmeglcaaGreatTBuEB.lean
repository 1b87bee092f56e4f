/- cpu: works of plain codes: pairs that are moved. -/
import Derived.Test.YtbhpmnhlmeglcaaGreatTBuEA
namespace Go.Proofs.YtbhpmnhlmeglcaaGreat
set_option linter.unusedSimpArgs false
set_option linter.unusedVariables false
open Go.RowKit
set_option maxRecDepth 100000 in
set_option maxHeartbeats 4000000 in
theorem first_ldPair (g : Nat) (c : Cp) (ho : c.Ok) : FirstTo 3 g c (c.withR (c.r.putPair (c.code / 16 % 4) c.ix c.wordV)) := by
  intro w sv h
  have H := Lib.hid h; have HB := Lib.hid h.blk
  have HK := Lib.hid (fun w => cpu_p c.code w ho.code)
  generalize c.code / 16 % 4 = p at HK ⊢
  have HW := Lib.hid (fun w h => cp_word g sv c w h ho)
  have HPB := Lib.hid (fun w h => putPair_any c.r 46 (c.tail sv) g p c.ix c.wordV w h (word_b16 ho))
  have c32 : w.cell? ⟨g, 32, none⟩ = some (.int .u8 c.code) := h.blk.cell 32
  have c33 : w.cell? ⟨g, 33, none⟩ = some (.int .i64 c.ix) := h.blk.cell 33
  clear h ho
  go_enter Tryz.func45, Tryz.ntmps45
  go_upto_region 11 with fail
  go_region_held3 (fun w' => w'.cell? ⟨g, 32, none⟩ = some (.int .u8 c.code) ∧ w'.cell? ⟨g, 33, none⟩ = some (.int .i64 c.ix)) (first | exact ⟨c32, c33⟩ | exact S1 | exact S2) (first
    | (go_at_call 66; refine (HK.out _).mono ?_; rintro e w1 ⟨rfl, rfl⟩)
    | (go_at_call 67; refine (HW.out _ ?_).mono ?_; exact H.out.drewAt ⟨1, rfl⟩; rintro e w1 ⟨rfl, hd1⟩; have H1 := Lib.hid ((H.out.drewAt ⟨1, rfl⟩).drewAt hd1); have HD1 := Lib.hid hd1; have S1 : w1.cell? ⟨g, 32, none⟩ = some (.int .u8 c.code) ∧ w1.cell? ⟨g, 33, none⟩ = some (.int .i64 c.ix) := ⟨H1.out.blk.cell 32, H1.out.blk.cell 33⟩; clear hd1)
    | (go_at_call 65; refine (HPB.out _ H1.out.blk).mono ?_; rintro e w2 ⟨rfl, h2, ho2⟩; have S2 : w2.cell? ⟨g, 32, none⟩ = some (.int .u8 c.code) ∧ w2.cell? ⟨g, 33, none⟩ = some (.int .i64 c.ix) := ⟨h2.cell 32, h2.cell 33⟩))
  go_wp2
  exact bodyPost_end (results_none rfl _ _ _) rfl ⟨rfl, H.out.only ((Drew.only ⟨1, rfl⟩).trans ((Drew.only HD1.out).trans ho2)) h2 rfl⟩
set_option maxRecDepth 100000 in
set_option maxHeartbeats 4000000 in
theorem first_ldHl (g : Nat) (c : Cp) (ho : c.Ok) : FirstTo 10 g c (c.withR (c.r.putPair 2 c.ix c.wordV)) := by
  intro w sv h
  have H := Lib.hid h; have HB := Lib.hid h.blk
  have HW := Lib.hid (fun w h => cp_word g sv c w h ho)
  have HPB := Lib.hid (fun w h => putPair_any c.r 46 (c.tail sv) g 2 c.ix c.wordV w h (word_b16 ho))
  have c32 : w.cell? ⟨g, 32, none⟩ = some (.int .u8 c.code) := h.blk.cell 32
  have c33 : w.cell? ⟨g, 33, none⟩ = some (.int .i64 c.ix) := h.blk.cell 33
  clear h ho
  go_enter Tryz.func45, Tryz.ntmps45
  go_upto_region 29 with fail
  go_region_held3 (fun w' => w'.cell? ⟨g, 32, none⟩ = some (.int .u8 c.code) ∧ w'.cell? ⟨g, 33, none⟩ = some (.int .i64 c.ix)) (first | exact ⟨c32, c33⟩ | exact S1 | exact S2) (first
    | (go_at_call 67; refine (HW.out _ ?_).mono ?_; exact H.out.drewAt ⟨1, rfl⟩; rintro e w1 ⟨rfl, hd1⟩; have H1 := Lib.hid ((H.out.drewAt ⟨1, rfl⟩).drewAt hd1); have HD1 := Lib.hid hd1; have S1 : w1.cell? ⟨g, 32, none⟩ = some (.int .u8 c.code) ∧ w1.cell? ⟨g, 33, none⟩ = some (.int .i64 c.ix) := ⟨H1.out.blk.cell 32, H1.out.blk.cell 33⟩; clear hd1)
    | (go_at_call 65; refine (HPB.out _ H1.out.blk).mono ?_; rintro e w2 ⟨rfl, h2, ho2⟩; have S2 : w2.cell? ⟨g, 32, none⟩ = some (.int .u8 c.code) ∧ w2.cell? ⟨g, 33, none⟩ = some (.int .i64 c.ix) := ⟨h2.cell 32, h2.cell 33⟩))
  go_wp2
  exact bodyPost_end (results_none rfl _ _ _) rfl ⟨rfl, H.out.only ((Drew.only ⟨1, rfl⟩).trans ((Drew.only HD1.out).trans ho2)) h2 rfl⟩
set_option maxRecDepth 100000 in
set_option maxHeartbeats 4000000 in
theorem first_incPair (g : Nat) (c : Cp) (ho : c.Ok) : FirstTo 11 g c (c.withR (c.r.putPair (c.code / 16 % 4) c.ix ((c.r.pair (c.code / 16 % 4) c.ix + 1) % 65536))) := by
  intro w sv h
  have H := Lib.hid h; have HB := Lib.hid h.blk
  have HK := Lib.hid (fun w => cpu_p c.code w ho.code)
  generalize c.code / 16 % 4 = p at HK ⊢
  have HP := Lib.hid (fun w h => cp_pair g sv c p c.ix w h ho)
  generalize c.r.pair p c.ix = v at HP ⊢
  have HPB := Lib.hid (fun w h => putPair_any c.r 46 (c.tail sv) g p c.ix ((v + 1) % 65536) w h (b16_mod _))
  have hw : IntKind.u16.wrap (v + 1) = (v + 1) % 65536 := IntKind.wrap_u16 _
  generalize (v + 1) % 65536 = v1 at HPB hw ⊢
  have c32 : w.cell? ⟨g, 32, none⟩ = some (.int .u8 c.code) := h.blk.cell 32
  have c33 : w.cell? ⟨g, 33, none⟩ = some (.int .i64 c.ix) := h.blk.cell 33
  clear h ho
  go_enter Tryz.func45, Tryz.ntmps45
  go_upto_region 31 with fail
  go_region_held3 (fun w' => w'.cell? ⟨g, 32, none⟩ = some (.int .u8 c.code) ∧ w'.cell? ⟨g, 33, none⟩ = some (.int .i64 c.ix)) (first | exact ⟨c32, c33⟩ | exact S1 | exact S2) (first
    | (go_at_call 66; refine (HK.out _).mono ?_; rintro e w1 ⟨rfl, rfl⟩)
    | (go_at_call 44; refine (HP.out _ ?_).mono ?_; exact H.out.drewAt ⟨1, rfl⟩; rintro e w1 ⟨rfl, hd1⟩; have H1 := Lib.hid ((H.out.drewAt ⟨1, rfl⟩).drewAt hd1); have HD1 := Lib.hid hd1; have S1 : w1.cell? ⟨g, 32, none⟩ = some (.int .u8 c.code) ∧ w1.cell? ⟨g, 33, none⟩ = some (.int .i64 c.ix) := ⟨H1.out.blk.cell 32, H1.out.blk.cell 33⟩; clear hd1)
    | (go_at_call 65; refine (HPB.out _ H1.out.blk).mono ?_; rintro e w2 ⟨rfl, h2, ho2⟩; have S2 : w2.cell? ⟨g, 32, none⟩ = some (.int .u8 c.code) ∧ w2.cell? ⟨g, 33, none⟩ = some (.int .i64 c.ix) := ⟨h2.cell 32, h2.cell 33⟩))
  go_wp2
  exact bodyPost_end (results_none rfl _ _ _) rfl ⟨rfl, H.out.only ((Drew.only ⟨1, rfl⟩).trans ((Drew.only HD1.out).trans ho2)) h2 rfl⟩
set_option maxRecDepth 100000 in
set_option maxHeartbeats 4000000 in
theorem first_decPair (g : Nat) (c : Cp) (ho : c.Ok) : FirstTo 12 g c (c.withR (c.r.putPair (c.code / 16 % 4) c.ix ((c.r.pair (c.code / 16 % 4) c.ix - 1) % 65536))) := by
  intro w sv h
  have H := Lib.hid h; have HB := Lib.hid h.blk
  have HK := Lib.hid (fun w => cpu_p c.code w ho.code)
  generalize c.code / 16 % 4 = p at HK ⊢
  have HP := Lib.hid (fun w h => cp_pair g sv c p c.ix w h ho)
  generalize c.r.pair p c.ix = v at HP ⊢
  have HPB := Lib.hid (fun w h => putPair_any c.r 46 (c.tail sv) g p c.ix ((v - 1) % 65536) w h (b16_mod _))
  have hw : IntKind.u16.wrap (v - 1) = (v - 1) % 65536 := IntKind.wrap_u16 _
  generalize (v - 1) % 65536 = v1 at HPB hw ⊢
  have c32 : w.cell? ⟨g, 32, none⟩ = some (.int .u8 c.code) := h.blk.cell 32
  have c33 : w.cell? ⟨g, 33, none⟩ = some (.int .i64 c.ix) := h.blk.cell 33
  clear h ho
  go_enter Tryz.func45, Tryz.ntmps45
  go_upto_region 33 with fail
  go_region_held3 (fun w' => w'.cell? ⟨g, 32, none⟩ = some (.int .u8 c.code) ∧ w'.cell? ⟨g, 33, none⟩ = some (.int .i64 c.ix)) (first | exact ⟨c32, c33⟩ | exact S1 | exact S2) (first
    | (go_at_call 66; refine (HK.out _).mono ?_; rintro e w1 ⟨rfl, rfl⟩)
    | (go_at_call 44; refine (HP.out _ ?_).mono ?_; exact H.out.drewAt ⟨1, rfl⟩; rintro e w1 ⟨rfl, hd1⟩; have H1 := Lib.hid ((H.out.drewAt ⟨1, rfl⟩).drewAt hd1); have HD1 := Lib.hid hd1; have S1 : w1.cell? ⟨g, 32, none⟩ = some (.int .u8 c.code) ∧ w1.cell? ⟨g, 33, none⟩ = some (.int .i64 c.ix) := ⟨H1.out.blk.cell 32, H1.out.blk.cell 33⟩; clear hd1)
    | (go_at_call 65; refine (HPB.out _ H1.out.blk).mono ?_; rintro e w2 ⟨rfl, h2, ho2⟩; have S2 : w2.cell? ⟨g, 32, none⟩ = some (.int .u8 c.code) ∧ w2.cell? ⟨g, 33, none⟩ = some (.int .i64 c.ix) := ⟨h2.cell 32, h2.cell 33⟩))
  go_wp2
  exact bodyPost_end (results_none rfl _ _ _) rfl ⟨rfl, H.out.only ((Drew.only ⟨1, rfl⟩).trans ((Drew.only HD1.out).trans ho2)) h2 rfl⟩
set_option maxRecDepth 100000 in
set_option maxHeartbeats 4000000 in
theorem first_exSp (g : Nat) (c : Cp) (ho : c.Ok) : FirstTo 31 g c (c.withR ({ c.r.putPair 2 c.ix c.wordV with wz := c.wordV })) := by
  intro w sv h
  have H := Lib.hid h; have HB := Lib.hid h.blk
  have HW := Lib.hid (fun w h => cp_word g sv c w h ho)
  have HPB := Lib.hid (fun w h => putPair_any c.r 46 (c.tail sv) g 2 c.ix c.wordV w h (word_b16 ho))
  have HO2 := Lib.hid (ok_withR ho (ok_putPair ho.r 2 c.ix _ (word_b16 ho)))
  have c32 : w.cell? ⟨g, 32, none⟩ = some (.int .u8 c.code) := h.blk.cell 32
  have c33 : w.cell? ⟨g, 33, none⟩ = some (.int .i64 c.ix) := h.blk.cell 33
  clear h ho
  go_enter Tryz.func45, Tryz.ntmps45
  go_upto_region 53 with fail
  go_region_held3 (fun w' => w'.cell? ⟨g, 32, none⟩ = some (.int .u8 c.code) ∧ w'.cell? ⟨g, 33, none⟩ = some (.int .i64 c.ix)) (first | exact ⟨c32, c33⟩ | exact S1 | exact S2) (first
    | (go_at_call 67; refine (HW.out _ ?_).mono ?_; exact H.out.drewAt ⟨1, rfl⟩; rintro e w1 ⟨rfl, hd1⟩; have H1 := Lib.hid ((H.out.drewAt ⟨1, rfl⟩).drewAt hd1); have HD1 := Lib.hid hd1; have S1 : w1.cell? ⟨g, 32, none⟩ = some (.int .u8 c.code) ∧ w1.cell? ⟨g, 33, none⟩ = some (.int .i64 c.ix) := ⟨H1.out.blk.cell 32, H1.out.blk.cell 33⟩; clear hd1)
    | (go_at_call 65; refine (HPB.out _ H1.out.blk).mono ?_; rintro e w2 ⟨rfl, h2, ho2⟩; have S2 : w2.cell? ⟨g, 32, none⟩ = some (.int .u8 c.code) ∧ w2.cell? ⟨g, 33, none⟩ = some (.int .i64 c.ix) := ⟨h2.cell 32, h2.cell 33⟩))
  have H2 : Hid (CpAt w2 g sv (c.withR (c.r.putPair 2 c.ix c.wordV))) := Lib.hid (H1.out.turn ho2 h2 rfl)
  have HOO : Hid (Only g w w2) := Lib.hid ((Drew.only ⟨1, rfl⟩).trans ((Drew.only HD1.out).trans ho2))
  clear h2 ho2 S1 S2 c32 c33
  go_wp2_with (first
    | (go_at_call 67; refine (cp_word g sv _ _ H2.out HO2.out).mono ?_; rintro e w3 ⟨rfl, hd3⟩; have H3 := Lib.hid (H2.out.drewAt hd3); have HD3 := Lib.hid hd3; have e23 : w3.cell? ⟨g, 23, none⟩ = some (.int .u16 (c.r.putPair 2 c.ix c.wordV).wz) := H3.out.blk.cell 23; have y23 := H3.out.blk.frozen 23; clear hd3))
  exact bodyPost_end (results_none rfl _ _ _) rfl ⟨rfl, H.out.only ((HOO.out.trans (Drew.only HD3.out)).trans (Only.set g 23 _ _)) (H3.out.blk.set_ 23 _) rfl⟩
end Go.Proofs.YtbhpmnhlmeglcaaGreat
