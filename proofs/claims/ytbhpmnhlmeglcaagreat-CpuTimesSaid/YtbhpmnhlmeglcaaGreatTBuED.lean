/- cpu: works of plain codes on bytes. -/
import Derived.Test.YtbhpmnhlmeglcaaGreatTBuEC
import Derived.Test.YtbhpmnhlmeglcaaGreatTBuQ2
import Derived.Test.YtbhpmnhlmeglcaaGreatTFlgC
import Derived.Deep.RegionWith
namespace Go.Proofs.YtbhpmnhlmeglcaaGreat
set_option linter.unusedSimpArgs false
set_option linter.unusedVariables false
open Go.RowKit Go.Sort
theorem byte_quiet {W : World} {g : Nat} {sv : Value} {c : Cp} (h : CpAt W g sv c) (ho : c.Ok) (k ix : Int) {d : Nat} {os : Array Obj} : Calls Tryz.prog 77 #[.pointer (some ⟨g, 0, none⟩), .int .i64 k, .int .i64 ix] (grow (redrawn W d) os) fun e w'' => e = .returned (.int .u8 (c.r.byte k ix)) ∧ ∃ p : Regrown, w'' = grow (redrawn W p.d) p.os :=
  Calls.regrown_of ((byte_any c.r 46 (c.tail sv) g k ix _ (CpAt.below h (below_regrown W d os)).blk ho.r).mono fun e w' ⟨h1, h2⟩ => ⟨h1, by rw [← h2]; exact Below.refl _ _⟩)
theorem gives_sameL {f : FuncId} {args : Array Value} {v : Value} (h : ∀ w, Calls Tryz.prog f args w fun e w' => e = .returned v ∧ w = w') : Gives f args v := gives_same fun w => same_swap (h w)
theorem b8_byte {r : Rg} (h : r.Ok) (k ix : Int) : B8 (r.byte k ix) := byte_b8 h k ix
def CountsTo (k : Int) (g : Nat) (c d : Cp) : Prop := Does 73 #[.pointer (some ⟨g, 0, none⟩), .int .i64 k] g c d
theorem workOk_c (k : Int) (hk : k = 13 ∨ k = 14 ∨ k = 15 ∨ k = 16 ∨ k = 17 ∨ k = 19 ∨ k = 20 ∨ k = 21 ∨ k = 22 ∨ k = 23) (c d : Cp) (hd : d.Ok) (h : ∀ g, CountsTo k g c d) : WorkOk k c d :=
  ⟨hd, fun g sv w hat => work_counts k g sv c _ w hk (h g w sv hat)⟩
set_option maxRecDepth 100000 in
set_option maxHeartbeats 4000000 in
theorem counts_incReg (g : Nat) (c : Cp) (ho : c.Ok) : CountsTo 13 g c ((c.withR (c.r.putByte (c.code / 8 % 8) c.ix ((c.r.byte (c.code / 8 % 8) c.ix + 1) % 256))).setF (incF (c.r.byte (c.code / 8 % 8) c.ix) c.r.f)) := by
  intro w sv h
  have H := Lib.hid h; have HO := Lib.hid ho
  have HY := Lib.hid (gives_sameL (fun w => cpu_y c.code w ho.code))
  have HY2 := Lib.hid (fun w => cpu_y c.code w ho.code)
  generalize c.code / 8 % 8 = y at HY HY2 ⊢
  have HBY := Lib.hid (fun (d : Nat) (os : Array Obj) => byte_quiet h ho y c.ix (d := d) (os := os))
  have HI : Hid (Gives 111 #[.int .u8 (c.r.byte y c.ix), .int .u8 c.r.f] (.tuple #[.int .u8 ((c.r.byte y c.ix + 1) % 256), .int .u8 (incF (c.r.byte y c.ix) c.r.f)])) := Lib.hid (fun w => inc_any _ c.r.f w (b8_byte ho.r y c.ix))
  have hv : B8 ((c.r.byte y c.ix + 1) % 256) := b8_mod _
  generalize incF (c.r.byte y c.ix) c.r.f = f at HI ⊢
  generalize (c.r.byte y c.ix + 1) % 256 = v at HI hv ⊢
  generalize c.r.byte y c.ix = b at HI HBY
  have HPB := Lib.hid (fun w h => putByte_any c.r 46 (c.tail sv) g y c.ix v w h ho.r hv)
  have q32 := quiet_cell (h.blk.cell 32 : w.cell? ⟨g, 32, none⟩ = some (.int .u8 c.code))
  have q33 := quiet_cell (h.blk.cell 33 : w.cell? ⟨g, 33, none⟩ = some (.int .i64 c.ix))
  have q1 := quiet_cell (h.blk.cell 1 : w.cell? ⟨g, 1, none⟩ = some (.int .u8 c.r.f))
  clear h ho hv
  go_enter Tryz.func73, Tryz.ntmps73
  go_upto_region 4 with fail
  refine wp_region_quiet_below (by kernel_rfl) (by kernel_rfl) ?_
  repeat (quiet_step (first | (go_at_call 49; exact HY.out.q) | (go_at_call 77; exact HBY.out _ _) | (go_at_call 111; exact HI.out.q)))
  refine wpQuiet_nil ?_
  intro u hwq
  have HB1 : Hid (Below w.heap.size w u) := by obtain ⟨p, rfl⟩ := hwq; exact Lib.hid (below_regrown w p.d p.os)
  have H1 := Lib.hid (CpAt.below H.out HB1.out)
  have c32 : u.cell? ⟨g, 32, none⟩ = some (.int .u8 c.code) := H1.out.blk.cell 32
  have c33 : u.cell? ⟨g, 33, none⟩ = some (.int .i64 c.ix) := H1.out.blk.cell 33
  clear hwq q32 q33 q1
  go_upto_region 5 with fail
  go_region_held3 (fun w' => w'.cell? ⟨g, 32, none⟩ = some (.int .u8 c.code) ∧ w'.cell? ⟨g, 33, none⟩ = some (.int .i64 c.ix)) (first | exact ⟨c32, c33⟩ | exact S2) (first
    | (go_at_call 49; refine (HY2.out _).mono ?_; rintro e w1 ⟨rfl, rfl⟩)
    | (go_at_call 78; refine (HPB.out _ ?_).mono ?_; exact H1.out.blk.drew; rintro e w2 ⟨rfl, h2, ho2⟩; have S2 : w2.cell? ⟨g, 32, none⟩ = some (.int .u8 c.code) ∧ w2.cell? ⟨g, 33, none⟩ = some (.int .i64 c.ix) := ⟨h2.cell 32, h2.cell 33⟩))
  have H2 : Hid (CpAt w2 g sv (c.withR (c.r.putByte y c.ix v))) := Lib.hid (H1.out.turn ((Drew.only ⟨1, rfl⟩).trans ho2) h2 rfl)
  have HOO : Hid (Only g u w2) := Lib.hid ((Drew.only ⟨1, rfl⟩).trans ho2)
  clear h2 ho2 S2 c32 c33
  go_wp2_with (first
    | (go_at_call 69; refine (cp_set g sv _ _ _ H2.out).mono ?_; rintro e w3 ⟨rfl, h3⟩))
  exact bodyPost_end (results_none rfl _ _ _) rfl ⟨rfl, CpTo.step (.inl rfl) (Below.ch HB1.out) (CpTo.step (.inl rfl) (HOO.out.ch.mono (fun _ _ hk => .inl hk)) h3)⟩
set_option maxRecDepth 100000 in
set_option maxHeartbeats 4000000 in
theorem counts_decReg (g : Nat) (c : Cp) (ho : c.Ok) : CountsTo 14 g c ((c.withR (c.r.putByte (c.code / 8 % 8) c.ix ((c.r.byte (c.code / 8 % 8) c.ix - 1) % 256))).setF (decF (c.r.byte (c.code / 8 % 8) c.ix) c.r.f)) := by
  intro w sv h
  have H := Lib.hid h; have HO := Lib.hid ho
  have HY := Lib.hid (gives_sameL (fun w => cpu_y c.code w ho.code))
  have HY2 := Lib.hid (fun w => cpu_y c.code w ho.code)
  generalize c.code / 8 % 8 = y at HY HY2 ⊢
  have HBY := Lib.hid (fun (d : Nat) (os : Array Obj) => byte_quiet h ho y c.ix (d := d) (os := os))
  have HI : Hid (Gives 112 #[.int .u8 (c.r.byte y c.ix), .int .u8 c.r.f] (.tuple #[.int .u8 ((c.r.byte y c.ix - 1) % 256), .int .u8 (decF (c.r.byte y c.ix) c.r.f)])) := Lib.hid (fun w => dec_any _ c.r.f w (b8_byte ho.r y c.ix))
  have hv : B8 ((c.r.byte y c.ix - 1) % 256) := b8_mod _
  generalize decF (c.r.byte y c.ix) c.r.f = f at HI ⊢
  generalize (c.r.byte y c.ix - 1) % 256 = v at HI hv ⊢
  generalize c.r.byte y c.ix = b at HI HBY
  have HPB := Lib.hid (fun w h => putByte_any c.r 46 (c.tail sv) g y c.ix v w h ho.r hv)
  have q32 := quiet_cell (h.blk.cell 32 : w.cell? ⟨g, 32, none⟩ = some (.int .u8 c.code))
  have q33 := quiet_cell (h.blk.cell 33 : w.cell? ⟨g, 33, none⟩ = some (.int .i64 c.ix))
  have q1 := quiet_cell (h.blk.cell 1 : w.cell? ⟨g, 1, none⟩ = some (.int .u8 c.r.f))
  clear h ho hv
  go_enter Tryz.func73, Tryz.ntmps73
  go_upto_region 8 with fail
  refine wp_region_quiet_below (by kernel_rfl) (by kernel_rfl) ?_
  repeat (quiet_step (first | (go_at_call 49; exact HY.out.q) | (go_at_call 77; exact HBY.out _ _) | (go_at_call 112; exact HI.out.q)))
  refine wpQuiet_nil ?_
  intro u hwq
  have HB1 : Hid (Below w.heap.size w u) := by obtain ⟨p, rfl⟩ := hwq; exact Lib.hid (below_regrown w p.d p.os)
  have H1 := Lib.hid (CpAt.below H.out HB1.out)
  have c32 : u.cell? ⟨g, 32, none⟩ = some (.int .u8 c.code) := H1.out.blk.cell 32
  have c33 : u.cell? ⟨g, 33, none⟩ = some (.int .i64 c.ix) := H1.out.blk.cell 33
  clear hwq q32 q33 q1
  go_upto_region 9 with fail
  go_region_held3 (fun w' => w'.cell? ⟨g, 32, none⟩ = some (.int .u8 c.code) ∧ w'.cell? ⟨g, 33, none⟩ = some (.int .i64 c.ix)) (first | exact ⟨c32, c33⟩ | exact S2) (first
    | (go_at_call 49; refine (HY2.out _).mono ?_; rintro e w1 ⟨rfl, rfl⟩)
    | (go_at_call 78; refine (HPB.out _ ?_).mono ?_; exact H1.out.blk.drew; rintro e w2 ⟨rfl, h2, ho2⟩; have S2 : w2.cell? ⟨g, 32, none⟩ = some (.int .u8 c.code) ∧ w2.cell? ⟨g, 33, none⟩ = some (.int .i64 c.ix) := ⟨h2.cell 32, h2.cell 33⟩))
  have H2 : Hid (CpAt w2 g sv (c.withR (c.r.putByte y c.ix v))) := Lib.hid (H1.out.turn ((Drew.only ⟨1, rfl⟩).trans ho2) h2 rfl)
  have HOO : Hid (Only g u w2) := Lib.hid ((Drew.only ⟨1, rfl⟩).trans ho2)
  clear h2 ho2 S2 c32 c33
  go_wp2_with (first
    | (go_at_call 69; refine (cp_set g sv _ _ _ H2.out).mono ?_; rintro e w3 ⟨rfl, h3⟩))
  exact bodyPost_end (results_none rfl _ _ _) rfl ⟨rfl, CpTo.step (.inl rfl) (Below.ch HB1.out) (CpTo.step (.inl rfl) (HOO.out.ch.mono (fun _ _ hk => .inl hk)) h3)⟩
set_option maxRecDepth 100000 in
set_option maxHeartbeats 4000000 in
theorem counts_halt (g : Nat) (c : Cp) : CountsTo 20 g c (c.withR { c.r with halt := true }) := by
  intro w sv h
  have H := Lib.hid h; have HB := Lib.hid h.blk
  have e26 : w.cell? ⟨g, 26, none⟩ = some (.bool c.r.halt) := h.blk.cell 26
  have y26 := h.blk.frozen 26
  clear h
  go_enter Tryz.func73, Tryz.ntmps73
  go_wp2
  exact bodyPost_ret (results_none rfl _ _ _) rfl ⟨rfl, H.out.only (Only.set g 26 w _) (HB.out.set_ 26 _) rfl⟩
set_option maxRecDepth 100000 in
set_option maxHeartbeats 4000000 in
theorem counts_ldRegs (g : Nat) (c : Cp) (ho : c.Ok) : CountsTo 21 g c (c.withR (c.r.putByte (c.code / 8 % 8) c.ix (c.r.byte (c.code % 8) c.ix))) := by
  intro w sv h
  have H := Lib.hid h; have HO := Lib.hid ho
  have HY := Lib.hid (fun w => cpu_y c.code w ho.code)
  have HZ := Lib.hid (fun w => cpu_z c.code w ho.code)
  generalize c.code / 8 % 8 = y at HY ⊢
  generalize c.code % 8 = z at HZ ⊢
  have HBY := Lib.hid (fun w (h : CpAt w g sv c) => byte_any c.r 46 (c.tail sv) g z c.ix w h.blk ho.r)
  have hv : B8 (c.r.byte z c.ix) := b8_byte ho.r z c.ix
  generalize c.r.byte z c.ix = v at HBY hv ⊢
  have HPB := Lib.hid (fun w h => putByte_any c.r 46 (c.tail sv) g y c.ix v w h ho.r hv)
  have c32 : w.cell? ⟨g, 32, none⟩ = some (.int .u8 c.code) := h.blk.cell 32
  have c33 : w.cell? ⟨g, 33, none⟩ = some (.int .i64 c.ix) := h.blk.cell 33
  clear h ho hv
  go_enter Tryz.func73, Tryz.ntmps73
  go_upto_region 18 with fail
  go_region_held3 (fun w' => w'.cell? ⟨g, 32, none⟩ = some (.int .u8 c.code) ∧ w'.cell? ⟨g, 33, none⟩ = some (.int .i64 c.ix)) (first | exact ⟨c32, c33⟩ | exact S2) (first
    | (go_at_call 49; refine (HY.out _).mono ?_; rintro e w1 ⟨rfl, rfl⟩)
    | (go_at_call 50; refine (HZ.out _).mono ?_; rintro e w1 ⟨rfl, rfl⟩)
    | (go_at_call 77; refine (HBY.out _ ?_).mono ?_; exact H.out.drewAt ⟨1, rfl⟩; rintro e w1 ⟨rfl, rfl⟩)
    | (go_at_call 78; refine (HPB.out _ ?_).mono ?_; exact H.out.blk.drew; rintro e w2 ⟨rfl, h2, ho2⟩; have S2 : w2.cell? ⟨g, 32, none⟩ = some (.int .u8 c.code) ∧ w2.cell? ⟨g, 33, none⟩ = some (.int .i64 c.ix) := ⟨h2.cell 32, h2.cell 33⟩))
  go_wp2
  exact bodyPost_ret (results_none rfl _ _ _) rfl ⟨rfl, H.out.only ((Drew.only ⟨1, rfl⟩).trans ho2) h2 rfl⟩
set_option maxRecDepth 100000 in
set_option maxHeartbeats 4000000 in
theorem counts_incLo (g : Nat) (c : Cp) (ho : c.Ok) : CountsTo 15 g c ({ c with lo := (c.lo + 1) % 256 }.setF (incF c.lo c.r.f)) := by
  intro w sv h
  have H := Lib.hid h
  have HI : Hid (∀ w, Calls Tryz.prog 111 #[.int .u8 c.lo, .int .u8 c.r.f] w (Two ((c.lo + 1) % 256) (incF c.lo c.r.f) w)) := Lib.hid (fun w => inc_any _ c.r.f w ho.lo)
  generalize incF c.lo c.r.f = f at HI ⊢
  generalize hv : (c.lo + 1) % 256 = v at HI ⊢
  have c36 : w.cell? ⟨g, 36, none⟩ = some (.int .u8 c.lo) := h.blk.cell 36
  have c1 : w.cell? ⟨g, 1, none⟩ = some (.int .u8 c.r.f) := h.blk.cell 1
  have f36 := h.blk.frozen 36
  clear h ho hv
  go_enter Tryz.func73, Tryz.ntmps73
  go_upto_region 12 with fail
  go_region_with (first
    | (go_at_call 111; refine (HI.out _).mono ?_; rintro e u ⟨rfl, hb1⟩; have H1 := Lib.hid (CpAt.below (H.out.drewAt ⟨1, rfl⟩) hb1); have HB1 := Lib.hid hb1; have c36 : u.cell? ⟨g, 36, none⟩ = some (.int .u8 c.lo) := H1.out.blk.cell 36; have f36 := H1.out.blk.frozen 36; clear hb1))
  all_goals
    have HOO := Lib.hid (Only.set g 36 u (.int .u8 v))
    have H2 : Hid (CpAt (u.setCell ⟨g, 36, none⟩ (.int .u8 v)) g sv { c with lo := v }) := Lib.hid (H1.out.turn HOO.out (H1.out.blk.set_ 36 _) rfl)
    go_wp2_with (first
      | (go_at_call 69; refine (cp_set g sv _ _ _ H2.out).mono ?_; rintro e w3 ⟨rfl, h3⟩))
    exact bodyPost_end (results_none rfl _ _ _) rfl ⟨rfl, CpTo.step (.inl rfl) (Drew.ch ⟨1, rfl⟩) (CpTo.step (.inl rfl) (Below.ch HB1.out) (CpTo.step (.inl rfl) (HOO.out.ch.mono (fun _ _ hk => .inl hk)) h3))⟩
set_option maxRecDepth 100000 in
set_option maxHeartbeats 4000000 in
theorem counts_decLo (g : Nat) (c : Cp) (ho : c.Ok) : CountsTo 16 g c ({ c with lo := (c.lo - 1) % 256 }.setF (decF c.lo c.r.f)) := by
  intro w sv h
  have H := Lib.hid h
  have HI : Hid (∀ w, Calls Tryz.prog 112 #[.int .u8 c.lo, .int .u8 c.r.f] w (Two ((c.lo - 1) % 256) (decF c.lo c.r.f) w)) := Lib.hid (fun w => dec_any _ c.r.f w ho.lo)
  generalize decF c.lo c.r.f = f at HI ⊢
  generalize hv : (c.lo - 1) % 256 = v at HI ⊢
  have c36 : w.cell? ⟨g, 36, none⟩ = some (.int .u8 c.lo) := h.blk.cell 36
  have c1 : w.cell? ⟨g, 1, none⟩ = some (.int .u8 c.r.f) := h.blk.cell 1
  have f36 := h.blk.frozen 36
  clear h ho hv
  go_enter Tryz.func73, Tryz.ntmps73
  go_upto_region 14 with fail
  go_region_with (first
    | (go_at_call 112; refine (HI.out _).mono ?_; rintro e u ⟨rfl, hb1⟩; have H1 := Lib.hid (CpAt.below (H.out.drewAt ⟨1, rfl⟩) hb1); have HB1 := Lib.hid hb1; have c36 : u.cell? ⟨g, 36, none⟩ = some (.int .u8 c.lo) := H1.out.blk.cell 36; have f36 := H1.out.blk.frozen 36; clear hb1))
  all_goals
    have HOO := Lib.hid (Only.set g 36 u (.int .u8 v))
    have H2 : Hid (CpAt (u.setCell ⟨g, 36, none⟩ (.int .u8 v)) g sv { c with lo := v }) := Lib.hid (H1.out.turn HOO.out (H1.out.blk.set_ 36 _) rfl)
    go_wp2_with (first
      | (go_at_call 69; refine (cp_set g sv _ _ _ H2.out).mono ?_; rintro e w3 ⟨rfl, h3⟩))
    exact bodyPost_end (results_none rfl _ _ _) rfl ⟨rfl, CpTo.step (.inl rfl) (Drew.ch ⟨1, rfl⟩) (CpTo.step (.inl rfl) (Below.ch HB1.out) (CpTo.step (.inl rfl) (HOO.out.ch.mono (fun _ _ hk => .inl hk)) h3))⟩
end Go.Proofs.YtbhpmnhlmeglcaaGreat
