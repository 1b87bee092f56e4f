/- cpu: works of plain codes: the accumulator's own. -/
import Derived.Test.YtbhpmnhlmeglcaaGreatTBuED
import Derived.Test.YtbhpmnhlmeglcaaGreatTFlgD
namespace Go.Proofs.YtbhpmnhlmeglcaaGreat
set_option linter.unusedSimpArgs false
set_option linter.unusedVariables false
open Go.RowKit Go.Sort
def Acc2 (W : World) (g : Nat) (a f : Int) (e : Ending) (w' : World) : Prop := e = .returned (.tuple #[.int .u8 a, .int .u8 f]) ∧ Below W.heap.size W w'
theorem go_acc {g : Nat} {sv : Value} {c : Cp} {w : World} (h : CpAt w g sv c) (ho : c.Ok) (k : Int) (hk : c.code / 8 % 8 = k) (a f : Int)
    (hf : (k = 4 ∧ Gives 139 #[.int .u8 c.r.a, .int .u8 c.r.f] (.tuple #[.int .u8 a, .int .u8 f])) ∨
      (k = 5 ∧ Gives 140 #[.int .u8 c.r.a, .int .u8 c.r.f] (.tuple #[.int .u8 a, .int .u8 f])) ∨
      (k = 6 ∧ a = c.r.a ∧ Gives 141 #[.int .u8 c.r.a, .int .u8 c.r.f, .int .u8 c.r.q] (.int .u8 f)) ∨
      (k = 7 ∧ a = c.r.a ∧ Gives 142 #[.int .u8 c.r.a, .int .u8 c.r.f, .int .u8 c.r.q] (.int .u8 f)) ∨
      (k ≤ 3 ∧ Gives 143 #[.int .i64 k, .int .u8 c.r.a, .int .u8 c.r.f] (.tuple #[.int .u8 a, .int .u8 f]))) :
    Calls Tryz.prog 114 #[.pointer (some ⟨g, 0, none⟩)] w (Acc2 w g a f) := by
  have HY := Lib.hid (fun w => cpu_y c.code w ho.code)
  have HY2 := Lib.hid (gives_sameL (fun w => cpu_y c.code w ho.code))
  rw [hk] at HY HY2
  have c32 : w.cell? ⟨g, 32, none⟩ = some (.int .u8 c.code) := h.blk.cell 32
  have q32 := quiet_cell (h.blk.cell 32 : w.cell? ⟨g, 32, none⟩ = some (.int .u8 c.code))
  have q0 := quiet_cell (h.blk.cell 0 : w.cell? ⟨g, 0, none⟩ = some (.int .u8 c.r.a))
  have q1 := quiet_cell (h.blk.cell 1 : w.cell? ⟨g, 1, none⟩ = some (.int .u8 c.r.f))
  have q18 := quiet_cell (h.blk.cell 18 : w.cell? ⟨g, 18, none⟩ = some (.int .u8 c.r.q))
  clear h ho hk
  rcases hf with ⟨rfl, h⟩ | ⟨rfl, h⟩ | ⟨rfl, rfl, h⟩ | ⟨rfl, rfl, h⟩ | ⟨h3, h⟩
  · have HF := Lib.hid h
    clear h
    go_enter Tryz.func114, Tryz.ntmps114
    go_upto_region 4 with (first
      | (go_at_call 49; refine (HY.out _).mono ?_; rintro e w1 ⟨rfl, rfl⟩))
    refine wp_region_quiet_below (by kernel_rfl) (by kernel_rfl) ?_
    repeat (quiet_step (first | (go_at_call 139; exact HF.out.q)))
    refine wpQuiet_nil ?_
    intro u hwq
    have HB1 : Hid (Below w.heap.size w u) := by obtain ⟨p, rfl⟩ := hwq; exact Lib.hid (below_regrown w p.d p.os)
    clear hwq q32 q0 q1 q18
    go_wp2
    go_ret2
    exact ⟨rfl, HB1.out⟩
  · have HF := Lib.hid h
    clear h
    go_enter Tryz.func114, Tryz.ntmps114
    go_upto_region 6 with (first
      | (go_at_call 49; refine (HY.out _).mono ?_; rintro e w1 ⟨rfl, rfl⟩))
    refine wp_region_quiet_below (by kernel_rfl) (by kernel_rfl) ?_
    repeat (quiet_step (first | (go_at_call 140; exact HF.out.q)))
    refine wpQuiet_nil ?_
    intro u hwq
    have HB1 : Hid (Below w.heap.size w u) := by obtain ⟨p, rfl⟩ := hwq; exact Lib.hid (below_regrown w p.d p.os)
    clear hwq q32 q0 q1 q18
    go_wp2
    go_ret2
    exact ⟨rfl, HB1.out⟩
  · have HF := Lib.hid h
    clear h
    go_enter Tryz.func114, Tryz.ntmps114
    go_upto_region 8 with (first
      | (go_at_call 49; refine (HY.out _).mono ?_; rintro e w1 ⟨rfl, rfl⟩))
    refine wp_region_quiet_below (by kernel_rfl) (by kernel_rfl) ?_
    repeat (quiet_step (first | (go_at_call 141; exact HF.out.q)))
    refine wpQuiet_nil ?_
    intro u hwq
    have HB1 : Hid (Below w.heap.size w u) := by obtain ⟨p, rfl⟩ := hwq; exact Lib.hid (below_regrown w p.d p.os)
    clear hwq q32 q0 q1 q18
    go_wp2
    go_ret2
    exact ⟨rfl, HB1.out⟩
  · have HF := Lib.hid h
    clear h
    go_enter Tryz.func114, Tryz.ntmps114
    go_upto_region 10 with (first
      | (go_at_call 49; refine (HY.out _).mono ?_; rintro e w1 ⟨rfl, rfl⟩))
    refine wp_region_quiet_below (by kernel_rfl) (by kernel_rfl) ?_
    repeat (quiet_step (first | (go_at_call 142; exact HF.out.q)))
    refine wpQuiet_nil ?_
    intro u hwq
    have HB1 : Hid (Below w.heap.size w u) := by obtain ⟨p, rfl⟩ := hwq; exact Lib.hid (below_regrown w p.d p.os)
    clear hwq q32 q0 q1 q18
    go_wp2
    go_ret2
    exact ⟨rfl, HB1.out⟩
  · have HF := Lib.hid h
    have n4 : (k == 4) = false := by simp; omega
    have n5 : (k == 5) = false := by simp; omega
    have n6 : (k == 6) = false := by simp; omega
    have n7 : (k == 7) = false := by simp; omega
    have m4 : ¬ k = 4 := by omega
    have m5 : ¬ k = 5 := by omega
    have m6 : ¬ k = 6 := by omega
    have m7 : ¬ k = 7 := by omega
    clear h h3
    go_enter Tryz.func114, Tryz.ntmps114
    go_upto_region 11 with (first
      | (go_at_call 49; refine (HY.out _).mono ?_; rintro e w1 ⟨rfl, rfl⟩))
    refine wp_region_quiet_below (by kernel_rfl) (by kernel_rfl) ?_
    repeat (quiet_step (first | (go_at_call 49; exact HY2.out.q) | (go_at_call 143; exact HF.out.q)))
    refine wpQuiet_nil ?_
    intro u hwq
    have HB1 : Hid (Below w.heap.size w u) := by obtain ⟨p, rfl⟩ := hwq; exact Lib.hid (below_regrown w p.d p.os)
    clear hwq q32 q0 q1 q18
    go_wp2
    go_ret2
    exact ⟨rfl, HB1.out⟩
/-- what acc's callee makes: two numbers -/
structure AccIs (c : Cp) (a f : Int) : Prop where
  is : ∃ k, c.code / 8 % 8 = k ∧ ((k = 4 ∧ Gives 139 #[.int .u8 c.r.a, .int .u8 c.r.f] (.tuple #[.int .u8 a, .int .u8 f])) ∨
      (k = 5 ∧ Gives 140 #[.int .u8 c.r.a, .int .u8 c.r.f] (.tuple #[.int .u8 a, .int .u8 f])) ∨
      (k = 6 ∧ a = c.r.a ∧ Gives 141 #[.int .u8 c.r.a, .int .u8 c.r.f, .int .u8 c.r.q] (.int .u8 f)) ∨
      (k = 7 ∧ a = c.r.a ∧ Gives 142 #[.int .u8 c.r.a, .int .u8 c.r.f, .int .u8 c.r.q] (.int .u8 f)) ∨
      (k ≤ 3 ∧ Gives 143 #[.int .i64 k, .int .u8 c.r.a, .int .u8 c.r.f] (.tuple #[.int .u8 a, .int .u8 f])))
set_option maxRecDepth 100000 in
set_option maxHeartbeats 4000000 in
theorem counts_acc (g : Nat) (c : Cp) (ho : c.Ok) (a f : Int) (ha : AccIs c a f) : CountsTo 19 g c ((c.withR { c.r with a := a }).setF f) := by
  intro w sv h
  have H := Lib.hid h
  have HA : Hid (∀ u, CpAt u g sv c → Calls Tryz.prog 114 #[.pointer (some ⟨g, 0, none⟩)] u (Acc2 u g a f)) := Lib.hid (fun u hu => by obtain ⟨k, hk, hx⟩ := ha.is; exact go_acc hu ho k hk a f hx)
  clear h ho ha
  go_enter Tryz.func73, Tryz.ntmps73
  go_wp2_with (first
    | (go_at_call 114; refine (HA.out _ H.out).mono ?_; rintro e u ⟨rfl, hb1⟩; have H1 := Lib.hid (CpAt.below H.out hb1); have HB1 := Lib.hid hb1; have c0 : u.cell? ⟨g, 0, none⟩ = some (.int .u8 c.r.a) := H1.out.blk.cell 0; have f0 := H1.out.blk.frozen 0; have HOO := Lib.hid (Only.set g 0 u (.int .u8 a)); have H2 : Hid (CpAt (u.setCell ⟨g, 0, none⟩ (.int .u8 a)) g sv (c.withR { c.r with a := a })) := Lib.hid (H1.out.turn HOO.out (H1.out.blk.set_ 0 _) rfl); clear hb1)
    | (go_at_call 69; refine (cp_set g sv _ _ _ H2.out).mono ?_; rintro e w3 ⟨rfl, h3⟩))
  exact bodyPost_end (results_none rfl _ _ _) rfl ⟨rfl, CpTo.step (.inl rfl) (Below.ch HB1.out) (CpTo.step (.inl rfl) (HOO.out.ch.mono (fun _ _ hk => .inl hk)) h3)⟩
theorem accIs_cpl (c : Cp) (ho : c.Ok) (h : c.code / 8 % 8 = 5) : AccIs c (cplA c.r.a) (cplF c.r.a c.r.f) := ⟨5, h, .inr (.inl ⟨rfl, fun w => cpl_any _ _ w ho.r.a⟩)⟩
theorem accIs_scf (c : Cp) (h : c.code / 8 % 8 = 6) : AccIs c c.r.a (scfF c.r.a c.r.f c.r.q) := ⟨6, h, .inr (.inr (.inl ⟨rfl, rfl, gives_sameL (fun w => scf_any _ _ _ w)⟩))⟩
theorem accIs_ccf (c : Cp) (h : c.code / 8 % 8 = 7) : AccIs c c.r.a (ccfF c.r.a c.r.f c.r.q) := ⟨7, h, .inr (.inr (.inr (.inl ⟨rfl, rfl, fun w => ccf_any _ _ _ w⟩)))⟩
theorem accIs_turn (c : Cp) (ho : c.Ok) (h : c.code / 8 % 8 ≤ 3) : AccIs c (turnR (c.code / 8 % 8) c.r.a c.r.f) (accF (c.code / 8 % 8) c.r.a c.r.f) :=
  ⟨_, rfl, .inr (.inr (.inr (.inr ⟨h, fun w => turnAcc_any _ _ _ w (by omega) ho.r.a ho.r.f⟩)))⟩
end Go.Proofs.YtbhpmnhlmeglcaaGreat
