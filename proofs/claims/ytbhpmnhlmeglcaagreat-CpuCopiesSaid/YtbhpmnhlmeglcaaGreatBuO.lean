/- cpu: Flat.Step: an instruction. -/
import Derived.Test.YtbhpmnhlmeglcaaGreatBuN
namespace Go.Proofs.YtbhpmnhlmeglcaaGreat
set_option linter.unusedSimpArgs false
set_option linter.unusedVariables false
open Go.RowKit
def Fl.inc (f : Fl) : Fl := { f with t := IntKind.u64.wrap (f.t + 1) }
/-- so many T-states, up to the end of an instruction -/
inductive Run : Nat → Cp → Fl → Cp → Fl → Prop
  | last (c c2 : Cp) (f f2 : Fl) : c.Calm → f.line = false → TickTo c f c2 f2 → c2.kind = -1 → Run 1 c f c2 f2.inc
  | more (k : Nat) (c c1 c2 : Cp) (f f1 f2 : Fl) : c.Calm → f.line = false → TickTo c f c1 f1 → c1.kind ≠ -1 → Run k c1 f1.inc c2 f2 → Run (k + 1) c f c2 f2
theorem Run.pos {k : Nat} {c c2 : Cp} {f f2 : Fl} (h : Run k c f c2 f2) : 0 < k := by cases h <;> omega
theorem Run.step {j : Nat} {c c2 : Cp} {f f2 : Fl} (h : Run j c f c2 f2) : ∃ c1 f1, c.Calm ∧ f.line = false ∧ TickTo c f c1 f1 ∧ ((j = 1 ∧ c1 = c2 ∧ f1.inc = f2 ∧ c1.kind = -1) ∨ (1 < j ∧ c1.kind ≠ -1 ∧ Run (j - 1) c1 f1.inc c2 f2)) := by
  cases h with
  | last _ _ _ _ h1 h2 h3 h4 => exact ⟨_, _, h1, h2, h3, .inl ⟨rfl, rfl, rfl, h4⟩⟩
  | more k _ c1 _ _ f1 _ h1 h2 h3 h4 h5 => exact ⟨c1, f1, h1, h2, h3, .inr ⟨by have := h5.pos; omega, h4, by rwa [Nat.add_sub_cancel]⟩⟩
theorem FlAt.inc {w : World} {h : Nat} {av : Value} {f : Fl} (hf : FlAt w h av f) : FlAt (w.setCell ⟨h, 65538, none⟩ (.int .u64 (IntKind.u64.wrap (f.t + 1)))) h av f.inc := by
  refine hf.only (Only.set h 65538 w _) ?_ hf.len rfl
  have := hf.blk.set_ 65538 (.int .u64 (IntKind.u64.wrap (f.t + 1)))
  have hl : (f.m.map (Value.int .u8)).length = 65536 := by rw [List.length_map]; exact hf.len
  have e : (f.m.map (Value.int .u8) ++ [.slice none 0 0, av, .int .u64 f.t, .bool f.line]).set 65538 (.int .u64 (IntKind.u64.wrap (f.t + 1))) = f.m.map (Value.int .u8) ++ [.slice none 0 0, av, .int .u64 (IntKind.u64.wrap (f.t + 1)), .bool f.line] := by
    rw [List.set_append_right _ _ (by rw [hl]; decide), hl]
    rfl
  rw [e] at this
  exact this
def StepP (K : Nat) (g h : Nat) (w : World) (sv av : Value) (c : Cp) (f : Fl) (e : Ending) (w' : World) : Prop := e = .returned (.int .i64 K) ∧ SysTo g h w sv av c f w'
set_option maxRecDepth 100000 in
set_option maxHeartbeats 8000000 in
theorem fl_step (g h : Nat) (sv av : Value) (c c2 : Cp) (f f2 : Fl) (K : Nat) (w : World) (hc : CpAt w g sv c) (hf : FlAt w h av f) (hn : Run K c f c2 f2) (hK : K ≤ 1000000) :
    Calls Tryz.prog 11 #[.pointer (some ⟨h, 0, none⟩), .pointer (some ⟨g, 0, none⟩)] w (StepP K g h w sv av c2 f2) := by
  have H := Lib.hid hc; have HF := Lib.hid hf; have HN := Lib.hid hn
  clear hc hf hn
  go_enter Tryz.func11, Tryz.ntmps11
  go_wp2
  go_loopg [5] K (fun j v wr => j ≤ K ∧ ∃ c1 sv1 av1 f1, CpAt wr g sv1 c1 ∧ FlAt wr h av1 f1 ∧ v = .int .i64 ((K - j : Nat) : Int) ∧ SvTo w sv sv1 ∧ SvTo w av av1 ∧ Ch (SysP g h sv av) w wr ∧ ((j = 0 ∧ c1 = c2 ∧ f1 = f2 ∧ c1.kind = -1) ∨ (0 < j ∧ Run j c1 f1 c2 f2 ∧ (j = K ∨ c1.kind ≠ -1))))
  case atStart => exact ⟨Nat.le_refl _, c, sv, av, f, H.out, HF.out, by rw [Nat.sub_self]; rfl, .inl rfl, .inl rfl, Ch.refl _ _, .inr ⟨HN.out.pos, HN.out, .inl rfl⟩⟩
  case round =>
    obtain ⟨hj, c1, sv1, av1, f1, h1, hf1, rfl, hs1, ha1, hc1, hor⟩ := hrel
    have H1 := Lib.hid h1; have HF1 := Lib.hid hf1; have HS1 := Lib.hid hs1; have HA1 := Lib.hid ha1; have HC1 := Lib.hid hc1
    have HD := Lib.hid (cp_done g sv1 c1 wr h1)
    have hpos := HN.out.pos
    clear h1 hf1 hs1 ha1 hc1
    rcases hor with ⟨rfl, rfl, rfl, hkk⟩ | ⟨hj0, hrun, hkk⟩
    · have hz : (((K - 0 : Nat) : Int) == 0) = false := by simp; omega
      have hkk2 : (c1.kind == -1) = true := by rw [hkk]; rfl
      rw [hkk2] at HD
      obtain ⟨v, hv⟩ : ∃ v : Int, v = ((K - 0 : Nat) : Int) := ⟨_, rfl⟩
      rw [← hv] at hz ⊢
      have HV := Lib.hid hv
      clear hkk hkk2 hv hj hpos
      go_wp2_with (first
        | (go_at_call 13; refine HD.out.mono ?_; rintro e w' ⟨rfl, rfl⟩))
      go_ret
      exact ⟨by rw [HV.out]; rfl, sv1, av1, H1.out, HF1.out, HS1.out, HA1.out, HC1.out⟩
    · obtain ⟨c3, f3, hcalm, hline, htick, hnext⟩ := hrun.step
      have HT := Lib.hid (cp_tickB g h sv1 av1 c1 c3 f1 f3 wr H1.out HF1.out hcalm hline htick)
      unfold busV at HT
      have HNX := Lib.hid hnext
      obtain ⟨m, hm⟩ : ∃ m, m = K - gk := ⟨_, rfl⟩
      have HMM := Lib.hid hm
      rw [← hm]
      have v1 : IntKind.i64.wrap ((m : Int) + 1) = m + 1 := by rw [IntKind.wrap_i64]; omega
      have HJ := Lib.hid hj; have HJ0 := Lib.hid hj0
      have hgo : ((m : Int) == 0) = true ∨ (((m : Int) == 0) = false ∧ (c1.kind == -1) = false) := by
        rcases hkk with hkk | hkk
        · left; simp; omega
        · cases hz : ((m : Int) == 0)
          · right; exact ⟨rfl, by simpa using hkk⟩
          · left; rfl
      clear hcalm hline htick hnext hrun hkk hm hj hj0 hpos
      rcases hgo with hz | ⟨hz, hkk⟩
      all_goals
        try rw [hkk] at HD
        go_wp2_with (first
          | (go_at_call 13; refine HD.out.mono ?_; rintro e w' ⟨rfl, rfl⟩)
          | (go_at_call 16; refine HT.out.mono ?_; rintro e w3 ⟨rfl, sv3, av3, h3, hf3, hs3, ha3, hc3⟩
             have H3 := Lib.hid h3; have HF3 := Lib.hid hf3; have HS3 := Lib.hid hs3; have HA3 := Lib.hid ha3; have HC3 := Lib.hid hc3
             have t3 : w3.cell? ⟨h, 65538, none⟩ = some (.int .u64 f3.t) := hf3.tail 2 65538 rfl
             have z3 := hf3.blk.frozen 65538
             clear h3 hf3 hs3 ha3 hc3))
      all_goals
        have hoh : Only h w3 (w3.setCell ⟨h, 65538, none⟩ (.int .u64 (IntKind.u64.wrap (f3.t + 1)))) := Only.set h 65538 w3 _
        have hcp : CpAt (w3.setCell ⟨h, 65538, none⟩ (.int .u64 (IntKind.u64.wrap (f3.t + 1)))) g sv3 c3 := H3.out.far HF3.out ((Only.ch hoh).mono fun _ _ e => .inl e)
        have hchA : Ch (SysP g h sv av) w w3 := HC1.out.trans HC3.out (fun _ _ h => h) fun i hi hp => by
          rcases hp with hp | hp
          · exact .inl (HS1.out.place hi hp)
          · exact .inr (HA1.out.placeF hi hp)
        have hchB : Ch (SysP g h sv av) w (w3.setCell ⟨h, 65538, none⟩ (.int .u64 (IntKind.u64.wrap (f3.t + 1)))) := hchA.trans (Only.ch hoh) (fun _ _ h => h) fun _ _ h => .inr (.inl h)
        have hav : SvTo w av av3 := HA1.out.trans HA3.out HC1.out.size
        have hsv : SvTo w sv sv3 := HS1.out.trans HS3.out HC1.out.size
        have hj := HJ.out
        have hj0 := HJ0.out
        have hm := HMM.out
        go_roundg (gk - 1)
        case measure => omega
        case rel =>
          refine ⟨by omega, c3, sv3, av3, f3.inc, hcp, HF3.out.inc, by rw [show K - (gk - 1) = m + 1 by omega]; rfl, hsv, hav, hchB, ?_⟩
          rcases HNX.out with ⟨h1, h2, h3, h4⟩ | ⟨h1, h2, h3⟩
          · exact .inl ⟨by omega, h2, h3, h4⟩
          · exact .inr ⟨by omega, h3, .inr h2⟩
end Go.Proofs.YtbhpmnhlmeglcaaGreat
