/- cpu: a cycle ends. -/
import Derived.Test.YtbhpmnhlmeglcaaGreatBuI
import Derived.Deep.RegionWith
namespace Go.Proofs.YtbhpmnhlmeglcaaGreat
set_option linter.unusedSimpArgs false
set_option linter.unusedVariables false
open Go.RowKit
theorem own_typ {w : World} {e : TypeId} {size n k : Nat} {v : Value} {xs : List Value} (h : w.ownsRow 0 e size v n xs) (hk : v.ownBlock = some k) : ∃ cur, w.heap[k]? = some (.cells cur e (0, 0)) := by
  rcases h.2 with ⟨hv, _⟩ | ⟨b, cap, cur, hv, _, h3, _⟩
  · rw [hv] at hk; cases hk
  · rw [hv] at hk
    have : b = k := by injection hk
    subst this
    exact ⟨cur, h3⟩
theorem typ_ne {w : World} {a b : Nat} {s t : TypeId} {x y : Array Value} {p q : Nat × Nat} (ha : w.heap[a]? = some (.cells x s p)) (hb : w.heap[b]? = some (.cells y t q)) (hst : s ≠ t) : a ≠ b := fun e => by
  subst e
  rw [ha] at hb
  injection hb with hb
  injection hb with _ hb _
  exact hst hb
/-- the processor's blocks and the bus's are others -/
theorem fl_ne {w : World} {g h : Nat} {sv av : Value} {c : Cp} {f : Fl} (hc : CpAt w g sv c) (hf : FlAt w h av f) : ¬ CpP g sv h := fun hp => by
  have hb := hf.blk
  unfold Blk at hb
  rcases hp with rfl | hp
  · have h2 := hc.blk
    unfold Blk at h2
    exact typ_ne hb h2 (by decide) rfl
  · obtain ⟨cur, h2⟩ := own_typ hc.own hp
    exact typ_ne hb h2 (by decide) rfl
theorem av_far {w : World} {g h : Nat} {sv av : Value} {c : Cp} {f : Fl} (hc : CpAt w g sv c) (hf : FlAt w h av f) : ∀ k, av.ownBlock = some k → ¬ CpP g sv k := fun k hk hp => by
  obtain ⟨cur, h1⟩ := own_typ hf.own hk
  rcases hp with rfl | hp
  · have h2 := hc.blk
    unfold Blk at h2
    exact typ_ne h1 h2 (by decide) rfl
  · obtain ⟨cur, h2⟩ := own_typ hc.own hp
    exact typ_ne h1 h2 (by decide) rfl
theorem fl_apart {w : World} {g h : Nat} {sv av : Value} {c : Cp} {f : Fl} (hc : CpAt w g sv c) (hf : FlAt w h av f) (k : Nat) (hk : FlP h av k) : ¬ CpP g sv k := by
  rcases hk with rfl | hk
  · exact fl_ne hc hf
  · exact av_far hc hf k hk
theorem FlAt.drew {w w' : World} {h : Nat} {av : Value} {f : Fl} (hf : FlAt w h av f) (hd : Drew w w') : FlAt w' h av f := hf.ch (p := fun _ => False) (Drew.ch hd) (fun h => h) (fun _ _ h => h)
/-- a processor is left alone by what its bus does -/
theorem CpAt.far {w w' : World} {g h : Nat} {sv av : Value} {c : Cp} {f : Fl} (hc : CpAt w g sv c) (hf : FlAt w h av f) (hch : Ch (FlP h av) w w') : CpAt w' g sv c :=
  ⟨hch.blk hc.blk fun e => fl_apart hc hf g e (.inl rfl), own_keepC hc.own fun k hk => hch.block k (hc.own.lt k hk).2 fun e => fl_apart hc hf k e (.inr hk)⟩
theorem CpAt.drewAt {w w' : World} {g : Nat} {sv : Value} {c : Cp} (h : CpAt w g sv c) (hd : Drew w w') : CpAt w' g sv c := h.turn (Drew.only hd) (hd_blk hd h.blk) rfl
theorem ahead_read (h n : Nat) (w : World) : (nilAhead (n + 1) 31 (.pointer (some ⟨h, 0, none⟩)) "Read").run Tryz.prog w = .ok (some false) w := by kernel_rfl
theorem ahead_write (h n : Nat) (w : World) : (nilAhead (n + 1) 31 (.pointer (some ⟨h, 0, none⟩)) "Write").run Tryz.prog w = .ok (some false) w := by kernel_rfl
theorem ahead_hold (h n : Nat) (w : World) : (nilAhead (n + 1) 31 (.pointer (some ⟨h, 0, none⟩)) "Hold").run Tryz.prog w = .ok (some false) w := by kernel_rfl
theorem ahead_int (h n : Nat) (w : World) : (nilAhead (n + 1) 31 (.pointer (some ⟨h, 0, none⟩)) "Int").run Tryz.prog w = .ok (some false) w := by kernel_rfl
theorem ahead_in (h n : Nat) (w : World) : (nilAhead (n + 1) 31 (.pointer (some ⟨h, 0, none⟩)) "In").run Tryz.prog w = .ok (some false) w := by kernel_rfl
theorem ahead_out (h n : Nat) (w : World) : (nilAhead (n + 1) 31 (.pointer (some ⟨h, 0, none⟩)) "Out").run Tryz.prog w = .ok (some false) w := by kernel_rfl
theorem CpTo.undrew {g : Nat} {w w' : World} {sv : Value} {c : Cp} (h : CpTo g w.drew sv c w') : CpTo g w sv c w' := by
  obtain ⟨sv', h1, h2, h3⟩ := h
  exact ⟨sv', h1, h2, ⟨h3.os, h3.tape, h3.output, h3.size, h3.block⟩⟩
theorem latch_kind (c : Cp) (v : Int) : (c.latch v).kind = c.kind := by unfold Cp.latch; split <;> rfl
/-- what comes of a processor between two cycles -/
def NextTo (c c2 : Cp) : Prop := c.Ok ∧ ((0 < c.second ∧ c2 = c.start 0 c.r.pc 4) ∨ (c.second = 0 ∧ ∃ K, NextN K c c2))
set_option maxHeartbeats 2000000 in
theorem cp_nextTo (g : Nat) (sv : Value) (c c2 : Cp) (w : World) (h : CpAt w g sv c) (hn : NextTo c c2) :
    Calls Tryz.prog 32 #[.pointer (some ⟨g, 0, none⟩)] w (Done (.tuple #[]) g w sv c2) := by
  obtain ⟨ho, ⟨h0, rfl⟩ | ⟨h0, K, hK⟩⟩ := hn
  · have hb := h.blk
    have c34 : w.cell? ⟨g, 34, none⟩ = some (.int .i64 c.second) := hb.cell 34
    have c22 : w.cell? ⟨g, 22, none⟩ = some (.int .u16 c.r.pc) := hb.cell 22
    have H := Lib.hid h
    have hs0 : ¬ c.second ≤ 0 := by omega
    clear h hb ho
    go_enter Tryz.func32, Tryz.ntmps32
    go_wp2_with (first
      | (go_at_call 29; refine (cp_start g sv c _ _ _ _ H.out).mono ?_; rintro e w5 ⟨rfl, h5⟩))
    exact bodyPost_end (results_none rfl _ _ _) rfl ⟨rfl, h5⟩
  · exact cp_next g sv c c2 K w h ho h0 hK
/-- the bus as the interface's value -/
def busV (h : Nat) : Value := .iface 31 (.pointer (some ⟨h, 0, none⟩))
/-- the blocks that may turn -/
def SysP (g h : Nat) (sv av : Value) (k : Nat) : Prop := CpP g sv k ∨ FlP h av k
/-- a processor on its bus is now this one on that -/
def SysTo (g h : Nat) (w : World) (sv av : Value) (c : Cp) (f : Fl) (w' : World) : Prop := ∃ sv' av', CpAt w' g sv' c ∧ FlAt w' h av' f ∧ SvTo w sv sv' ∧ SvTo w av av' ∧ Ch (SysP g h sv av) w w'
theorem CpTo.sys {g h : Nat} {w w' : World} {sv av : Value} {c c0 : Cp} {f : Fl} (hc : CpAt w g sv c0) (hf : FlAt w h av f) (ht : CpTo g w sv c w') : SysTo g h w sv av c f w' := by
  obtain ⟨sv', h1, h2, h3⟩ := ht
  exact ⟨sv', av, h1, hf.ch h3 (fl_ne hc hf) (av_far hc hf), h2, .inl rfl, h3.mono fun _ _ h => .inl h⟩
theorem SvTo.placeF {w : World} {a b : Value} {h i : Nat} (hs : SvTo w a b) (hi : i < w.heap.size) (hp : FlP h b i) : FlP h a i := by
  rcases hp with hp | hp
  · exact .inl hp
  · rcases hs with h | h
    · exact .inr (by rw [← h]; exact hp)
    · exact absurd (h i hp) (by omega)
theorem SysTo.trans {g h : Nat} {w w1 w2 : World} {sv sv1 av av1 : Value} {c2 : Cp} {f2 : Fl} (h2 : SvTo w sv sv1) (ha : SvTo w av av1) (h3 : Ch (SysP g h sv av) w w1) (k : SysTo g h w1 sv1 av1 c2 f2 w2) : SysTo g h w sv av c2 f2 w2 := by
  obtain ⟨sv2, av2, k1, k2, k3, k4, k5⟩ := k
  refine ⟨sv2, av2, k1, k2, h2.trans k3 h3.size, ha.trans k4 h3.size, h3.trans k5 (fun _ _ h => h) fun i hi hp => ?_⟩
  rcases hp with hp | hp
  · exact .inl (h2.place hi hp)
  · exact .inr (ha.placeF hi hp)
def DoneS (g h : Nat) (w : World) (sv av : Value) (c : Cp) (f : Fl) (e : Ending) (w' : World) : Prop := e = .returned (.tuple #[]) ∧ SysTo g h w sv av c f w'
theorem nat_addr {a : Int} (h : B16 a) : ∃ n : Nat, a = n ∧ n < 65536 := ⟨a.toNat, by obtain ⟨h0, h1⟩ := h; omega, by obtain ⟨h0, h1⟩ := h; omega⟩
set_option maxRecDepth 100000 in
set_option maxHeartbeats 4000000 in
theorem fin_read (g h : Nat) (sv av : Value) (c c2 : Cp) (f : Fl) (w : World) (hc : CpAt w g sv c) (hf : FlAt w h av f) (ho : c.Ok) (hk : c.kind = 1) (hnn : c2.kind ≠ -1 ∨ True) (hn : NextTo (c.latch (f.m.getD c.addr.toNat 0)) c2) :
    Calls Tryz.prog 22 #[.pointer (some ⟨g, 0, none⟩), busV h] w (DoneS g h w sv av c2 f) := by
  have hb := hc.blk
  have c42 : w.cell? ⟨g, 42, none⟩ = some (.int .i64 1) := by rw [← hk]; exact hb.cell 42
  obtain ⟨a, ha, ha2⟩ := nat_addr ho.addr
  have c45 : w.cell? ⟨g, 45, none⟩ = some (.int .u16 a) := by rw [← ha]; exact hb.cell 45
  rw [ha, Int.toNat_natCast] at hn
  obtain ⟨v, hv⟩ : ∃ v, v = f.m.getD a 0 := ⟨_, rfl⟩
  have HR := Lib.hid (fun w hf => fl_read h av f a w hf ha2)
  rw [← hv] at hn HR
  have H := Lib.hid hc; have HF := Lib.hid hf; have HN := Lib.hid hn; have HK := Lib.hid hk
  clear hc hf ho hk hb ha hv hn
  unfold busV
  go_enter Tryz.func22, Tryz.ntmps22
  go_wp2_with fail
  have HFD : Hid (FlAt w.drew h av f) := Lib.hid (HF.out.drew ⟨1, rfl⟩)
  have HD : Hid (CpAt w.drew g sv c) := Lib.hid (H.out.drewAt ⟨1, rfl⟩)
  have hna := fun n w => ahead_read h n w
  go_region_with (first
    | (go_at_call 177; refine (HR.out _ ?_).mono ?_; exact HFD.out; rintro e w1 ⟨rfl, rfl⟩)
    | (go_at_call 31; refine (cp_latch g sv c v _ ?_).mono ?_; exact HD.out; rintro e w2 ⟨rfl, h2⟩))
  all_goals
    obtain ⟨sv2, h3, h4, h5⟩ := CpTo.undrew h2
    have H3 := Lib.hid h3; have H4 := Lib.hid h4; have H5 := Lib.hid h5
    have d42 : w2.cell? ⟨g, 42, none⟩ = some (.int .i64 1) := by rw [← HK.out, ← latch_kind c v]; exact h3.blk.cell 42
    clear h2 h3 h4 h5 c42 c45 hna
    go_wp2_with (first
      | (go_at_call 32; refine (cp_nextTo g _ _ c2 _ H3.out HN.out).mono ?_; rintro e w5 ⟨rfl, h6⟩))
    exact bodyPost_end (results_none rfl _ _ _) rfl ⟨rfl, CpTo.sys H.out HF.out (CpTo.step H4.out H5.out h6)⟩
end Go.Proofs.YtbhpmnhlmeglcaaGreat
