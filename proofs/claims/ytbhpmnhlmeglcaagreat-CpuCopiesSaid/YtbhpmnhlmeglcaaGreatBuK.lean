/- cpu: a fetch, a write, an idle cycle ends. -/
import Derived.Test.YtbhpmnhlmeglcaaGreatBuJ
namespace Go.Proofs.YtbhpmnhlmeglcaaGreat
set_option linter.unusedSimpArgs false
set_option linter.unusedVariables false
open Go.RowKit
/-- what comes of a code that was fetched -/
def FetchTo (code : Int) (c c1 : Cp) : Prop := ∀ (g : Nat) (sv : Value) (w : World), CpAt w g sv c → Calls Tryz.prog 30 #[.pointer (some ⟨g, 0, none⟩), .int .u8 code] w (Done (.tuple #[]) g w sv c1)
set_option maxRecDepth 100000 in
set_option maxHeartbeats 4000000 in
theorem fin_fetch (g h : Nat) (sv av : Value) (c c1 c2 : Cp) (f : Fl) (w : World) (hc : CpAt w g sv c) (hf : FlAt w h av f) (ho : c.Ok) (hk : c.kind = 0) (h1 : FetchTo (f.m.getD c.addr.toNat 0) c c1) (hn : (c1.kind = -1 ∧ c2 = c1) ∨ (c1.kind ≠ -1 ∧ NextTo c1 c2)) :
    Calls Tryz.prog 22 #[.pointer (some ⟨g, 0, none⟩), busV h] w (DoneS g h w sv av c2 f) := by
  have hb := hc.blk
  have c42 : w.cell? ⟨g, 42, none⟩ = some (.int .i64 0) := by rw [← hk]; exact hb.cell 42
  obtain ⟨a, ha, ha2⟩ := nat_addr ho.addr
  have c45 : w.cell? ⟨g, 45, none⟩ = some (.int .u16 a) := by rw [← ha]; exact hb.cell 45
  rw [ha, Int.toNat_natCast] at h1
  obtain ⟨v, hv⟩ : ∃ v, v = f.m.getD a 0 := ⟨_, rfl⟩
  have HR := Lib.hid (fun w hf => fl_read h av f a w hf ha2)
  rw [← hv] at h1 HR
  have H := Lib.hid hc; have HF := Lib.hid hf; have HN := Lib.hid hn; have HK := Lib.hid hk; have HFT := Lib.hid h1
  clear hc hf ho hk hb ha hv hn h1
  unfold busV
  go_enter Tryz.func22, Tryz.ntmps22
  go_wp2_with fail
  have HFD : Hid (FlAt w.drew h av f) := Lib.hid (HF.out.drew ⟨1, rfl⟩)
  have HD : Hid (CpAt w.drew g sv c) := Lib.hid (H.out.drewAt ⟨1, rfl⟩)
  have hna := fun n w => ahead_read h n w
  go_region_with (first
    | (go_at_call 177; refine (HR.out _ ?_).mono ?_; exact HFD.out; rintro e w1 ⟨rfl, rfl⟩)
    | (go_at_call 30; refine (HFT.out g sv _ ?_).mono ?_; exact HD.out; rintro e w2 ⟨rfl, h2⟩))
  all_goals
    obtain ⟨sv2, h3, h4, h5⟩ := CpTo.undrew h2
    have H3 := Lib.hid h3; have H4 := Lib.hid h4; have H5 := Lib.hid h5
    have d42 : w2.cell? ⟨g, 42, none⟩ = some (.int .i64 c1.kind) := h3.blk.cell 42
    have hn := HN.out
    clear h2 h3 h4 h5 c42 c45 hna
    rcases hn with ⟨hk1, rfl⟩ | ⟨hk1, hn⟩
    · have e1 : (c2.kind == -1) = true := by rw [hk1]; rfl
      clear hk1
      go_wp2
      exact bodyPost_ret (results_none rfl _ _ _) rfl ⟨rfl, CpTo.sys H.out HF.out ⟨sv2, H3.out, H4.out, H5.out⟩⟩
    · have e1 : (c1.kind == -1) = false := by simpa using hk1
      have HN2 := Lib.hid hn
      clear hk1 hn
      go_wp2_with (first
        | (go_at_call 32; refine (cp_nextTo g _ _ c2 _ H3.out HN2.out).mono ?_; rintro e w5 ⟨rfl, h6⟩))
      exact bodyPost_end (results_none rfl _ _ _) rfl ⟨rfl, CpTo.sys H.out HF.out (CpTo.step H4.out H5.out h6)⟩
set_option maxRecDepth 100000 in
set_option maxHeartbeats 4000000 in
theorem fin_write (g h : Nat) (sv av : Value) (c c2 : Cp) (f : Fl) (w : World) (hc : CpAt w g sv c) (hf : FlAt w h av f) (ho : c.Ok) (hk : c.kind = 2) (hn : NextTo c c2) :
    Calls Tryz.prog 22 #[.pointer (some ⟨g, 0, none⟩), busV h] w (DoneS g h w sv av c2 (f.put c.addr.toNat c.out)) := by
  have hb := hc.blk
  have c42 : w.cell? ⟨g, 42, none⟩ = some (.int .i64 2) := by rw [← hk]; exact hb.cell 42
  obtain ⟨a, ha, ha2⟩ := nat_addr ho.addr
  have c45 : w.cell? ⟨g, 45, none⟩ = some (.int .u16 a) := by rw [← ha]; exact hb.cell 45
  have c39 : w.cell? ⟨g, 39, none⟩ = some (.int .u8 c.out) := hb.cell 39
  have HA : Hid (c.addr.toNat = a) := by show _ = _; rw [ha]; rfl
  rw [HA.out]
  have HR := Lib.hid (fun w hf => fl_write h av f a c.out w hf ha2)
  have H := Lib.hid hc; have HF := Lib.hid hf; have HN := Lib.hid hn; have HK := Lib.hid hk
  clear hc hf ho hk hb ha hn
  unfold busV
  go_enter Tryz.func22, Tryz.ntmps22
  go_wp2_with fail
  have HFD : Hid (FlAt w.drew h av f) := Lib.hid (HF.out.drew ⟨1, rfl⟩)
  have HD : Hid (CpAt w.drew g sv c) := Lib.hid (H.out.drewAt ⟨1, rfl⟩)
  have hna := fun n w => ahead_write h n w
  go_region_with (first
    | (go_at_call 178; refine (HR.out _ ?_).mono ?_; exact HFD.out; rintro e w2 ⟨rfl, h2, h3⟩))
  all_goals
    have hcp : CpAt w2 g sv c := HD.out.far HFD.out ((Only.ch h3).mono fun _ _ e => .inl e)
    have H2 := Lib.hid h2; have H3 := Lib.hid h3; have HC := Lib.hid hcp
    have d42 : w2.cell? ⟨g, 42, none⟩ = some (.int .i64 2) := by rw [← HK.out]; exact hcp.blk.cell 42
    clear h2 h3 hcp c42 c45 c39 hna
    go_wp2_with (first
      | (go_at_call 32; refine (cp_nextTo g _ _ c2 _ HC.out HN.out).mono ?_; rintro e w5 ⟨rfl, h6⟩))
    have hch : Ch (SysP g h sv av) w w2 := by
      have h3 := H3.out
      exact ⟨h3.os, h3.tape, h3.output, by rw [h3.size]; exact Nat.le_refl _, fun k _ hp => h3.block k fun e => hp (.inr (.inl e))⟩
    exact bodyPost_end (results_none rfl _ _ _) rfl ⟨rfl, SysTo.trans (.inl rfl) (.inl rfl) hch (CpTo.sys HC.out H2.out h6)⟩
set_option maxRecDepth 100000 in
set_option maxHeartbeats 4000000 in
theorem fin_idle (g h : Nat) (sv av : Value) (c c2 : Cp) (f : Fl) (w : World) (hc : CpAt w g sv c) (hf : FlAt w h av f) (hk : c.kind = 4 ∨ c.kind = 5) (hn : NextTo c c2) :
    Calls Tryz.prog 22 #[.pointer (some ⟨g, 0, none⟩), busV h] w (DoneS g h w sv av c2 f) := by
  have hb := hc.blk
  have H := Lib.hid hc; have HF := Lib.hid hf; have HN := Lib.hid hn
  obtain ⟨k, hkk⟩ : ∃ k, k = c.kind := ⟨_, rfl⟩
  rw [← hkk] at hk
  have c42 : w.cell? ⟨g, 42, none⟩ = some (.int .i64 k) := by rw [hkk]; exact hb.cell 42
  clear hc hf hb hn hkk
  unfold busV
  rcases hk with rfl | rfl
  all_goals
    go_enter Tryz.func22, Tryz.ntmps22
    go_wp2_with (first
      | (go_at_call 32; refine (cp_nextTo g _ _ c2 _ H.out HN.out).mono ?_; rintro e w5 ⟨rfl, h6⟩))
    exact bodyPost_end (results_none rfl _ _ _) rfl ⟨rfl, CpTo.sys H.out HF.out h6⟩
theorem ActTo.undrew {h : Nat} {w w' : World} {av : Value} {f : Fl} (k : ActTo h w.drew av f w') : ActTo h w av f w' := by
  obtain ⟨av', h1, h2, h3⟩ := k
  exact ⟨av', h1, h2, ⟨h3.os, h3.tape, h3.output, h3.size, h3.block⟩⟩
theorem ActTo.sys {g h : Nat} {w w1 w2 : World} {sv av : Value} {c c2 : Cp} {f f1 : Fl} (hc : CpAt w g sv c) (hf : FlAt w h av f) (k : ActTo h w av f1 w1) (ht : ∀ av1, FlAt w1 h av1 f1 → CpAt w1 g sv c → SysTo g h w1 sv av1 c2 f1 w2) : SysTo g h w sv av c2 f1 w2 := by
  obtain ⟨av1, h1, h2, h3⟩ := k
  exact SysTo.trans (.inl rfl) h2 (h3.mono fun _ _ e => .inr e) (ht av1 h1 (hc.far hf h3))
set_option maxRecDepth 100000 in
set_option maxHeartbeats 4000000 in
theorem fin_in (g h : Nat) (sv av : Value) (c c2 : Cp) (f : Fl) (w : World) (hc : CpAt w g sv c) (hf : FlAt w h av f) (hk : c.kind = 3) (hp : c.port = true) (hl : f.acts.length < 1000000000) (hn : NextTo (c.latch 255) c2) :
    Calls Tryz.prog 22 #[.pointer (some ⟨g, 0, none⟩), busV h] w (DoneS g h w sv av c2 (f.act false c.addr 255)) := by
  have hb := hc.blk
  have c42 : w.cell? ⟨g, 42, none⟩ = some (.int .i64 3) := by rw [← hk]; exact hb.cell 42
  have c43 : w.cell? ⟨g, 43, none⟩ = some (.bool true) := by rw [← hp]; exact hb.cell 43
  have c45 : w.cell? ⟨g, 45, none⟩ = some (.int .u16 c.addr) := hb.cell 45
  have HR := Lib.hid (fun w hf => fl_in h av f c.addr w hf hl)
  have H := Lib.hid hc; have HF := Lib.hid hf; have HN := Lib.hid hn; have HK := Lib.hid hk
  clear hc hf hk hb hn hp hl
  unfold busV
  go_enter Tryz.func22, Tryz.ntmps22
  go_wp2_with fail
  have HFD : Hid (FlAt w.drew h av f) := Lib.hid (HF.out.drew ⟨1, rfl⟩)
  have HD : Hid (CpAt w.drew g sv c) := Lib.hid (H.out.drewAt ⟨1, rfl⟩)
  have hna := fun n w => ahead_in h n w
  go_region_with (first
    | (go_at_call 174; refine (HR.out _ ?_).mono ?_; exact HFD.out; rintro e w1 ⟨rfl, h1⟩
       have HA := Lib.hid h1
       obtain ⟨av1, h1a, h1b, h1c⟩ := h1
       have HC1 := Lib.hid (HD.out.far HFD.out h1c)
       clear h1a h1b h1c)
    | (go_at_call 31; refine (cp_latch g sv c 255 _ ?_).mono ?_; exact HC1.out; rintro e w2 ⟨rfl, h2⟩))
  all_goals
    have HT2 := Lib.hid h2
    obtain ⟨sv2, h3, h4, h5⟩ := h2
    have H3 := Lib.hid h3; have H4 := Lib.hid h4; have H5 := Lib.hid h5
    have d42 : w2.cell? ⟨g, 42, none⟩ = some (.int .i64 3) := by rw [← HK.out, ← latch_kind c 255]; exact h3.blk.cell 42
    clear h3 h4 h5 c42 c43 c45 hna
    go_wp2_with (first
      | (go_at_call 32; refine (cp_nextTo g _ _ c2 _ H3.out HN.out).mono ?_; rintro e w5 ⟨rfl, h6⟩))
    exact bodyPost_end (results_none rfl _ _ _) rfl ⟨rfl, ActTo.sys H.out HF.out (ActTo.undrew HA.out) fun av1 ha hcc => CpTo.sys hcc ha (CpTo.step H4.out H5.out h6)⟩
set_option maxRecDepth 100000 in
set_option maxHeartbeats 4000000 in
theorem fin_out (g h : Nat) (sv av : Value) (c c2 : Cp) (f : Fl) (w : World) (hc : CpAt w g sv c) (hf : FlAt w h av f) (hk : c.kind = 3) (hp : c.port = false) (hl : f.acts.length < 1000000000) (hn : NextTo c c2) :
    Calls Tryz.prog 22 #[.pointer (some ⟨g, 0, none⟩), busV h] w (DoneS g h w sv av c2 (f.act true c.addr c.out)) := by
  have hb := hc.blk
  have c42 : w.cell? ⟨g, 42, none⟩ = some (.int .i64 3) := by rw [← hk]; exact hb.cell 42
  have c43 : w.cell? ⟨g, 43, none⟩ = some (.bool false) := by rw [← hp]; exact hb.cell 43
  have c45 : w.cell? ⟨g, 45, none⟩ = some (.int .u16 c.addr) := hb.cell 45
  have c39 : w.cell? ⟨g, 39, none⟩ = some (.int .u8 c.out) := hb.cell 39
  have HR := Lib.hid (fun w hf => fl_out h av f c.addr c.out w hf hl)
  have H := Lib.hid hc; have HF := Lib.hid hf; have HN := Lib.hid hn; have HK := Lib.hid hk
  clear hc hf hk hb hn hp hl
  unfold busV
  go_enter Tryz.func22, Tryz.ntmps22
  go_wp2_with fail
  have HFD : Hid (FlAt w.drew h av f) := Lib.hid (HF.out.drew ⟨1, rfl⟩)
  have HD : Hid (CpAt w.drew g sv c) := Lib.hid (H.out.drewAt ⟨1, rfl⟩)
  have hna := fun n w => ahead_out h n w
  go_region_with (first
    | (go_at_call 176; refine (HR.out _ ?_).mono ?_; exact HFD.out; rintro e w2 ⟨rfl, h1⟩))
  all_goals
    have HA := Lib.hid h1
    obtain ⟨av1, h1a, h1b, h1c⟩ := h1
    have HC1 := Lib.hid (HD.out.far HFD.out h1c)
    have d42 : w2.cell? ⟨g, 42, none⟩ = some (.int .i64 3) := by rw [← HK.out]; exact HC1.out.blk.cell 42
    clear h1a h1b h1c c42 c43 c45 c39 hna
    go_wp2_with (first
      | (go_at_call 32; refine (cp_nextTo g _ _ c2 _ HC1.out HN.out).mono ?_; rintro e w5 ⟨rfl, h6⟩))
    exact bodyPost_end (results_none rfl _ _ _) rfl ⟨rfl, ActTo.sys H.out HF.out (ActTo.undrew HA.out) fun av1 ha hcc => CpTo.sys hcc ha h6⟩
end Go.Proofs.YtbhpmnhlmeglcaaGreat
